/- A length's text. Rows of bytes put together by the library. A slice, gone through in chunks by the library's iterator. -/
import Derived.Test.YtdhajdgcgjbdnaaDoorChunkRd
import Derived.Lib.LaidTab
import Derived.Lib.ItoaMem
import Derived.Laws.BitsAllLaws
import Derived.Laws.Bits64
import Derived.RangeFuncNested
import Derived.RangeFuncBound
import Derived.RangeFuncCalls
import Derived.RangeFuncLeaves
import Derived.RangeFuncBox
import Derived.RangeFuncWrites
import Derived.Shelf.Abstract
import Derived.Shelf.RegionOpen
import Derived.WalkKit
import Derived.OwnWalkIn
import Derived.TacticsInMore
import Derived.LoopNIn
import Derived.LoopIn
set_option linter.unusedVariables false
set_option linter.unusedSimpArgs false
namespace Go.Proofs.YtdhajdgcgjbdnaaDoor.Chunk
open Go.RowKit Go.Proofs.YtdhajdgcgjbdnaaDoor.G Go.Proofs.YtdhajdgcgjbdnaaDoorW.PrintWords Go.Proofs.YtdhajdgcgjbdnaaDoorW.PrintMore Go.Proofs.YtdhajdgcgjbdnaaDoor.Foot

/-- The entry of the library's table that these walks read. -/
def Tz (w : World) : Prop := w.cell? ⟨2, 15, none⟩ = some (.int .u8 4)
theorem Tz.below {w w' : World} (h : Tz w) (hb : Below w.heap.size w w') : Tz w' :=
  (hb.cell (p := ⟨2, 15, none⟩) (World.block_lt_of_cell? w _ h)).trans h
theorem tz64_calls (w : World) (h : Tz w) : Calls Tryd.prog 55 #[.int .u64 16] w fun e w' => e = .returned (.int .i64 4) ∧ w' = w := by
  have h : w.cell? ⟨2, 15, none⟩ = some (.int .u8 4) := h
  have e1 : IntKind.u64.wrap (-16) = 18446744073709551600 := by decide +kernel
  have e2 : bits .and .u64 16 18446744073709551600 = 16 := by decide +kernel
  have e3 : IntKind.u64.wrap 4573923408821661840 = 4573923408821661840 := by decide +kernel
  go_enter Tryd.func55, Tryd.ntmps55
  go_wp2
  go_ret
  exact ⟨rfl, rfl⟩
theorem tz_calls (w : World) (h : Tz w) : Calls Tryd.prog 49 #[.int .u64 16] w fun e w' => e = .returned (.int .i64 4) ∧ w' = w := by
  go_enter Tryd.func49, Tryd.ntmps49
  go_wp2_with fail
  with_reducible refine (tz64_calls w h).mono ?_
  rintro e w1 ⟨rfl, rfl⟩
  go_wp2
  go_ret
  exact ⟨rfl, rfl⟩
theorem pow2_calls (w : World) : Calls Tryd.prog 48 #[.int .i64 16] w fun e w' => e = .returned (.bool true) ∧ w' = w := by
  have e2 : bits .and .i64 16 15 = 0 := by decide +kernel
  go_enter Tryd.func48, Tryd.ntmps48
  go_wp2
  go_ret
  exact ⟨rfl, rfl⟩
/-- A digit's sign. -/
def hexC (d : Nat) : Int := if d < 10 then ((48 + d : Nat) : Int) else ((87 + d : Nat) : Int)
/-- A number's digits. -/
def hexT : Nat → Nat → List Int
  | 0, u => [hexC u]
  | f + 1, u => if u < 16 then [hexC u] else hexT f (u / 16) ++ [hexC (u % 16)]
theorem digit_tab : ∀ D : Fin 16, bt ⟨#[48, 49, 50, 51, 52, 53, 54, 55, 56, 57, 97, 98, 99, 100, 101, 102, 103, 104, 105, 106, 107, 108, 109, 110, 111, 112, 113, 114, 115, 116, 117, 118, 119, 120, 121, 122]⟩ (D.val : Int) = hexC D.val := by decide +kernel
theorem and15 (u : Nat) (h : u < 18446744073709551616) : bits .and .u64 (u : Int) 15 = ((u % 16 : Nat) : Int) := by
  rw [show (15 : Int) = ((15 : Nat) : Int) from rfl, u64_and_nat u 15 h (by decide), show (15 : Nat) = 2 ^ 4 - 1 from rfl, Nat.and_two_pow_sub_one_eq_mod]
/-- The block of a number's text: its digits from i on. -/
def HexB (w : World) (q i : Nat) (ds : List Int) : Prop := ∃ (C : Array Value) (ty : TypeId), w.heap[q]? = some (.cells C ty (0, 0)) ∧ C.size = 65 ∧ C.toList.drop i = ds.map (Value.int .u8)
theorem HexB.cell {w : World} {q i : Nat} {ds : List Int} (h : HexB w q i ds) (k : Nat) (hk : k < 65) : ∃ v, w.cell? ⟨q, k, none⟩ = some v ∧ w.frozen? ⟨q, k, none⟩ = false := by
  obtain ⟨C, ty, hb, hs, _⟩ := h
  exact ⟨C[k], by rw [blk_cell hb k]; simp [hs, hk], blk_frozen hb k⟩
theorem HexB.put {w : World} {q i : Nat} {ds : List Int} (h : HexB w q (i + 1) ds) (hi : i < 65) (d : Int) : HexB (w.setCell ⟨q, i, none⟩ (.int .u8 d)) q i (d :: ds) := by
  obtain ⟨C, ty, hb, hs, hd⟩ := h
  refine ⟨_, ty, blk_put hb i (.int .u8 d) rfl, by rw [Array.size_setIfInBounds]; exact hs, ?_⟩
  rw [Array.toList_setIfInBounds, List.drop_eq_getElem_cons (by simp [hs, hi]), List.getElem_set_self, List.drop_set_of_lt (by omega), hd]
  rfl
theorem HexB.reads {w : World} {q i : Nat} {ds : List Int} (h : HexB w q i ds) (hl : i + ds.length = 65) : Kd.C (Kd.int .u8) w (some ⟨q, i, none⟩) ds.length ds := by
  obtain ⟨C, ty, hb, hs, hd⟩ := h
  refine ⟨rfl, by omega, fun _ => ⟨_, rfl, fun j p hj => ⟨[.int .u8 p], rfl, rfl, fun n u hu => ?_⟩⟩⟩
  have hn : n = 0 := by
    have := (List.getElem?_eq_some_iff.1 hu).1
    simp only [List.length_cons, List.length_nil] at this
    omega
  subst hn
  injection hu with hu
  subst hu
  show w.cell? ((⟨q, i, none⟩ : Addr).add (j * 1 + 0)) = _
  rw [show (⟨q, i, none⟩ : Addr).add (j * 1 + 0) = ⟨q, i + (j * 1 + 0), none⟩ by simp [Addr.add]]
  rw [cell_of_row w q _ C ty _ hb, ← Array.getElem?_toList, Nat.mul_one, Nat.add_zero, ← List.getElem?_drop, hd, List.getElem?_map, hj]
  rfl
theorem slice65 (q i : Nat) (hi : i < 65) (W : World) : Sem.run Tryd.prog (Instr.sliceAt 82 (.pointer (some ⟨q, 0, none⟩)) (some (.int .i64 (i : Int))) none none) W = Result.ok (.slice (some ⟨q, i, none⟩) (65 - i) (65 - i)) W := by
  obtain ⟨i0, hi0, _, hsz, _⟩ := info_parts info5
  have ht : Tryd.prog.underlying 82 = some (.array (Tryd.prog.arrayLen 82) (Tryd.prog.elem 82)) := by kernel_rfl
  have hl : Tryd.prog.arrayLen 82 = 65 := by kernel_rfl
  have he : Tryd.prog.elem 82 = 5 := by kernel_rfl
  rw [run_sliceAt_array_l W 82 ⟨q, 0, none⟩ ht .i64 (i : Int) (by omega) (by rw [hl]; omega), hl, he]
  have hne : ¬ 65 = i := by omega
  simp [sizeOf, typeInfo, hi0, hsz, slicedAt, Result.andThen, hne, add_plain]
set_option maxHeartbeats 4000000 in
set_option maxRecDepth 100000 in
theorem bits_calls (u : Nat) (w : World) (h : Tz w) (hu : u < 16 ^ 15) :
    Calls Tryd.prog 42 #[.slice none 0 0, .int .u64 (u : Int), .int .i64 16, .bool false, .bool false] w fun e w' => e = .returned (.tuple #[.slice none 0 0, .string (strOfNums (hexT 15 u))]) ∧ Below w.heap.size w w' := by
  have H := Aside0.mk h
  have hqw : w.heap.size > 2 := World.block_lt_of_cell? w _ h
  clear h
  go_enter Tryd.func42, Tryd.ntmps42
  go_wp2_with fail
  with_reducible refine (pow2_calls _).mono ?_
  rintro e w1 ⟨rfl, hw1⟩
  have hblk : ∃ (C : Array Value) (ty : TypeId), w1.heap[w.heap.size]? = some (.cells C ty (0, 0)) ∧ C.size = 65 := by rw [hw1]; exact ⟨_, _, blk_new _ _, rfl⟩
  have HB := Aside0.mk (show Below w.heap.size w w1 by rw [hw1]; exact below_alloc (Below.refl _ _) _)
  obtain ⟨q, hq⟩ : ∃ q, w.heap.size = q := ⟨_, rfl⟩
  rw [hq] at hblk hqw ⊢
  have HQ := Lib.hid hq
  have HT := Aside0.mk (H.out.below HB.out)
  clear hw1 hq H
  go_wp2_with fail
  with_reducible refine (tz_calls _ HT.out).mono ?_
  rintro e w2 ⟨rfl, rfl⟩
  go_wp2_with fail
  obtain ⟨C, ty, hblk, hsz⟩ := hblk
  have HBK := Aside0.mk (show HexB w2 q 65 [] from ⟨C, ty, hblk, hsz, by rw [List.drop_eq_nil_of_le (by simp [hsz])]; rfl⟩)
  clear hblk hsz
  go_loopw [1, 13] (fun v1 v13 wr => ∃ (v i m : Nat) (ds : List Int), v1 = .int .u64 (v : Int) ∧ v13 = .int .i64 (i : Int) ∧ i = 50 + m ∧ 1 ≤ m ∧ v < 16 ^ m ∧ m ≤ 15 ∧ i + ds.length = 65 ∧ Aside0 (hexT 15 u = hexT m v ++ ds) ∧ Aside0 (HexB wr q i ds) ∧ Aside0 (Below w.heap.size w wr)) (fun _ v13 _ => (intOf v13).toNat)
  case atStart => exact ⟨u, 65, 15, [], rfl, rfl, rfl, by decide, hu, Nat.le_refl _, rfl, ⟨by rw [List.append_nil]⟩, HBK, HB⟩
  case round =>
    clear HB HBK HT
    obtain ⟨v, i, m, ds, rfl, rfl, rfl, hm, hv, hm15, hil65, HE, HX, HB⟩ := hrel
    obtain ⟨k, rfl⟩ : ∃ k, m = k + 1 := ⟨m - 1, by omega⟩
    have hw0 : ((50 + (k + 1) : Nat) : Int) - 1 = ((50 + k : Nat) : Int) := by omega
    obtain ⟨i, hi⟩ : ∃ i, 50 + k = i := ⟨_, rfl⟩
    have hii : 50 + (k + 1) = i + 1 := by omega
    have hil : i < 65 := by omega
    rw [hii] at HX ⊢
    obtain ⟨vx, hc0, hz0⟩ := HX.out.cell i hil
    have hcast : ((i + 1 : Nat) : Int) - 1 = (i : Int) := by omega
    have hw1 : wrap64 (((i + 1 : Nat) : Int) - 1) = (i : Int) := by rw [hcast]; exact w64 _ (by omega) (by omega)
    have hw2 : IntKind.i64.wrap (((i + 1 : Nat) : Int) - 1) = (i : Int) := by rw [hcast]; exact w64i _ (by omega) (by omega)
    have hib : (i : Int) < 65 := by omega
    have hib0 : (0 : Int) ≤ (i : Int) := by omega
    have hv64 : v < 18446744073709551616 := by
      have := Nat.pow_le_pow_right (show 0 < 16 by decide) hm15
      exact Nat.lt_trans hv (Nat.lt_of_le_of_lt this (by decide))
    by_cases hlt : v < 16
    · have hlt1 : decide ((16 : Int) ≤ (v : Int)) = false := decide_eq_false (by omega)
      have hdig : ∀ h : v < (⟨#[48, 49, 50, 51, 52, 53, 54, 55, 56, 57, 97, 98, 99, 100, 101, 102, 103, 104, 105, 106, 107, 108, 109, 110, 111, 112, 113, 114, 115, 116, 117, 118, 119, 120, 121, 122]⟩ : ByteArray).size, (((⟨#[48, 49, 50, 51, 52, 53, 54, 55, 56, 57, 97, 98, 99, 100, 101, 102, 103, 104, 105, 106, 107, 108, 109, 110, 111, 112, 113, 114, 115, 116, 117, 118, 119, 120, 121, 122]⟩ : ByteArray)[v]'h).toNat : Int) = hexC v := fun h => (bt_at _ (v : Int) h).trans (digit_tab ⟨v, hlt⟩)
      have hb1 : (v : Int) < 36 := by omega
      have hb0 : (0 : Int) ≤ (v : Int) := by omega
      have hd : hexT 15 u = hexC v :: ds := by
        rw [HE.out]
        rw [show hexT (k + 1) v = [hexC v] by rw [hexT, if_pos hlt]]
        rfl
      have HD := Lib.hid hd
      have hln : i + (hexC v :: ds).length = 65 := by
        rw [List.length_cons]; omega
      have HXP := Aside0.mk (HX.out.put hil (hexC v))
      have HBP := Aside0.mk (HB.out.setCell (p := ⟨q, i, none⟩) (by rw [HQ.out]; exact Nat.le_refl _) (.int .u8 (hexC v)))
      have hsl := slice65 q i hil
      have hcv := Kd.C_string (P := Tryd.prog) (c := 65 - i) Tryd.underlying22 Tryd.underlying5 Tryd.underlying9 (HXP.out.reads hln)
      rw [show (hexC v :: ds).length = 65 - i by omega] at hcv
      clear hd hln hi hii hcast HX HB HE
      go_wp2_with fail
      refine bodyPost_ret (results_tmp2 rfl _ _ _) rfl ?_
      exact ⟨by rw [HD.out]; rfl, HBP.out⟩
    · have hge : (16 : Int) ≤ (v : Int) := by omega
      have hk1 : 1 ≤ k := by
        rcases Nat.lt_or_ge k 1 with h | h
        · have : k = 0 := by omega
          subst this
          rw [Nat.pow_one] at hv
          omega
        · exact h
      have hvk : v / 16 < 16 ^ k := by
        rw [Nat.div_lt_iff_lt_mul (by decide), ← Nat.pow_succ]
        exact hv
      have hand := and15 v hv64
      have he : hexT 15 u = hexT k (v / 16) ++ (hexC (v % 16) :: ds) := by
        rw [HE.out, hexT, if_neg hlt, List.append_assoc]
        rfl
      obtain ⟨D, hD⟩ : ∃ D, v % 16 = D := ⟨_, rfl⟩
      have hD16 : D < 16 := by omega
      rw [hD] at hand he
      have HE1 := Aside0.mk he
      have hdig : ∀ h : D < (⟨#[48, 49, 50, 51, 52, 53, 54, 55, 56, 57, 97, 98, 99, 100, 101, 102, 103, 104, 105, 106, 107, 108, 109, 110, 111, 112, 113, 114, 115, 116, 117, 118, 119, 120, 121, 122]⟩ : ByteArray).size, (((⟨#[48, 49, 50, 51, 52, 53, 54, 55, 56, 57, 97, 98, 99, 100, 101, 102, 103, 104, 105, 106, 107, 108, 109, 110, 111, 112, 113, 114, 115, 116, 117, 118, 119, 120, 121, 122]⟩ : ByteArray)[D]'h).toNat : Int) = hexC D := fun h => (bt_at _ (D : Int) h).trans (digit_tab ⟨D, hD16⟩)
      have hb1 : (D : Int) < 36 := by omega
      have hb0 : (0 : Int) ≤ (D : Int) := by omega
      have HXP := Aside0.mk (HX.out.put hil (hexC D))
      have HBP := Aside0.mk (HB.out.setCell (p := ⟨q, i, none⟩) (by rw [HQ.out]; exact Nat.le_refl _) (.int .u8 (hexC D)))
      have HH := Lib.hid (show i = 50 + k ∧ 1 ≤ k ∧ v / 16 < 16 ^ k ∧ k ≤ 15 ∧ i + (hexC D :: ds).length = 65 from ⟨hi.symm, hk1, hvk, by omega, by rw [List.length_cons]; omega⟩)
      clear he hi hii hcast HX HB HE hk1 hvk hv hD
      go_wp2_with fail
      go_roundw
      case rel => exact ⟨v / 16, i, k, hexC D :: ds, by first | rfl | (congr 1; omega) | (simp), rfl, HH.out.1, HH.out.2.1, HH.out.2.2.1, HH.out.2.2.2.1, HH.out.2.2.2.2, HE1, HXP, HBP⟩
      case measure => simp [intOf]
theorem pow15 {n : Nat} (h : n ≤ 1000000000000) : n < 16 ^ 15 := Nat.lt_of_le_of_lt h (by decide)
set_option maxHeartbeats 4000000 in
set_option maxRecDepth 100000 in
theorem fmt_in (n : Nat) (w : World) (h : Tz w) (hn : n ≤ 1000000000000) :
    Calls Tryd.prog 31 #[.int .i64 (n : Int), .int .i64 16] w fun e w' => e = .returned (.string (strOfNums (hexT 15 n))) ∧ Below w.heap.size w w' := by
  have hw : IntKind.u64.wrap (n : Int) = (n : Int) := by rw [IntKind.wrap_u64]; omega
  have hn0 : decide ((n : Int) < 0) = false := decide_eq_false (by omega)
  have H := Aside0.mk h
  have HN := Lib.hid hn
  clear h hn
  go_enter Tryd.func31, Tryd.ntmps31
  go_wp2_with fail
  with_reducible refine (bits_calls n w H.out (pow15 HN.out)).mono ?_
  rintro e w1 ⟨rfl, hb⟩
  have HB := Aside0.mk hb
  clear hb
  go_wp2_with fail
  refine bodyPost_ret (results_tmp rfl _ _ _) rfl ?_
  exact ⟨rfl, HB.out⟩
theorem fmt16 (n : Nat) (w : World) (h : Tz w) (hn : n ≤ 1000000000000) :
    Calls Tryd.prog 20 #[.int .i64 (n : Int), .int .i64 16] w fun e w' => e = .returned (.string (strOfNums (hexT 15 n))) ∧ Below w.heap.size w w' := by
  go_enter Tryd.func20, Tryd.ntmps20
  go_wp2_with fail
  with_reducible refine (fmt_in n w h hn).mono ?_
  rintro e w1 ⟨rfl, hb⟩
  have HB := Aside0.mk hb
  clear hb
  go_wp2_with fail
  refine bodyPost_ret (results_tmp rfl _ _ _) rfl ?_
  exact ⟨rfl, HB.out⟩
end Go.Proofs.YtdhajdgcgjbdnaaDoor.Chunk

namespace Go.Proofs.YtdhajdgcgjbdnaaDoor.Chunk
open Go.RowKit Go.Proofs.YtdhajdgcgjbdnaaDoor.G Go.Proofs.YtdhajdgcgjbdnaaDoorW.PrintWords Go.Proofs.YtdhajdgcgjbdnaaDoorW.PrintMore Go.Proofs.YtdhajdgcgjbdnaaDoor.Foot Go.Proofs.YtdhajdgcgjbdnaaDoor.Plain

set_option maxHeartbeats 4000000 in
set_option maxRecDepth 100000 in
theorem grow_calls (n : Nat) (w : World) (h0 : 1 ≤ n) (h1 : n ≤ 1000000000) :
    Calls Tryd.prog 30 #[.slice none 0 0, .int .i64 (n : Int)] w fun e w' => ∃ A c, e = .returned (.slice A 0 c) ∧ Rw w' w.heap.size (.slice A 0 c) [] ∧ Below w.heap.size w w' := by
  obtain ⟨z, hz⟩ : ∃ z : Int, (n : Int) = z := ⟨_, rfl⟩
  have hz0 : decide (z < 0) = false := decide_eq_false (by omega)
  have hz1 : 0 < z := by omega
  have hwz : wrap64 z = z := w64 _ (by omega) (by omega)
  have hwz2 : IntKind.i64.wrap z = z := w64i _ (by omega) (by omega)
  have HZ := Lib.hid (show z = (n : Int) ∧ 0 ≤ z ∧ z ≤ 1000000000 from ⟨hz.symm, by omega, by omega⟩)
  rw [hz]
  clear hz h0 h1
  go_enter Tryd.func30, Tryd.ntmps30
  go_wp2_with (first
    | ((with_reducible refine gate_builtin (b := .append) (xs := #[.tmp 20, .tmp 21]) rfl ?_); at_builtin; go_must (refine Kd.R_append_zeros (Kd.int .u8) (w0 := w) w.heap.size rfl (.tmp 20) (.tmp 21) 22 3 5 (.int .u8 0) 1 rfl Tryd.underlying22 Tryd.underlying3 info5 rfl (by decide) (by decide) (.slice none 0 0) [] 0 z (fun k => w.heap.size ≤ k) rfl rfl rfl (fun _ hk => hk) (Kd.R_nil _ _ _ _ _) (by have := HZ.out; omega) (Below.refl _ _) (Nat.le_refl _) ?cZ ?_); (case cZ => have := HZ.out; simp; omega); intro v7 w7 hR7 hB7 hg7 _; obtain ⟨A7, c7, rfl⟩ := Kd.R_slice hR7; have HR7 := Aside0.mk hR7; have HB7 := Aside0.mk hB7; clear hR7 hB7 hg7)
    | fail)
  refine bodyPost_ret (results_tmp rfl _ _ _) rfl ?_
  exact ⟨A7, c7, rfl, by have := Kd.R_take HR7.out (m := 0) (Nat.zero_le _); rwa [List.take_zero] at this, HB7.out⟩
/-- A row of bytes that is put together with others. -/
abbrev Pt := Option Addr × Nat × List Int
def sv (x : Pt) : Value := .slice x.1 x.2.2.length x.2.1
def joined (L : List Pt) : List Int := L.flatMap (fun x => x.2.2)
theorem joined_take (L : List Pt) (i : Nat) (h : i < L.length) : joined (L.take (i + 1)) = joined (L.take i) ++ L[i].2.2 := by
  unfold joined
  rw [List.take_add_one, List.getElem?_eq_getElem h, List.flatMap_append]
  simp
theorem joined_le (L : List Pt) (i : Nat) : (joined (L.take i)).length ≤ (joined L).length := by
  have h : joined L = joined (L.take i) ++ joined (L.drop i) := by
    unfold joined
    rw [← List.flatMap_append, List.take_append_drop]
  rw [h, List.length_append]
  omega
def ConcatPost (L : List Pt) (b : Nat) (w : World) (e : Ending) (w' : World) : Prop := ∃ v, e = .returned v ∧ Rw w' b v (joined L) ∧ Below b w w'
set_option maxHeartbeats 4000000 in
set_option maxRecDepth 100000 in
theorem concat_calls (g : Nat) (ty : TypeId) (L : List Pt) (b : Nat) (w : World) (hbb : w.heap.size = b) (hb : w.heap[g]? = some (.cells (L.map sv).toArray ty (0, 0))) (hr : ∀ x ∈ L, Kd.C (Kd.int .u8) w x.1 x.2.2.length x.2.2) (h1 : 1 ≤ (joined L).length) (hl : (joined L).length ≤ 1000000000) (hL : L.length ≤ 100) :
    Calls Tryd.prog 19 #[.slice (some ⟨g, 0, none⟩) L.length L.length] w (ConcatPost L b w) := by
  have HBB := Lib.hid hbb
  clear hbb
  obtain ⟨m, hm⟩ : ∃ m, L.length = m := ⟨_, rfl⟩
  have HM := Lib.hid hm
  have HB := Aside0.mk hb
  have HR := Lib.hid hr
  have HL := Lib.hid (show 1 ≤ (joined L).length ∧ (joined L).length ≤ 1000000000 ∧ m ≤ 100 from ⟨h1, hl, by omega⟩)
  have hat : ∀ i (h : i < L.length), w.cell? ⟨g, i, none⟩ = some (sv L[i]) := fun i h => by
    rw [blk_cell hb i]
    simp [h]
  have HAT := Lib.hid hat
  rw [hm]
  have hm100 : m ≤ 100 := by omega
  clear hb hr h1 hl hL hm hat
  go_enter Tryd.func19, Tryd.ntmps19
  go_wp2_with fail
  go_loopw [3, 11] (fun v3 v11 wr => ∃ i : Nat, v3 = .int .i64 ((joined (L.take i)).length : Int) ∧ v11 = .int .i64 (i : Int) ∧ i ≤ m ∧ wr = w) (fun _ v11 _ => m - (intOf v11).toNat)
  case atStart => exact ⟨0, by simp [joined], rfl, Nat.zero_le _, rfl⟩
  case round =>
    obtain ⟨i, rfl, rfl, hi, rfl⟩ := hrel
    by_cases hlt : i < m
    · have hil : i < L.length := by rw [HM.out]; exact hlt
      have hj0 : (0 : Int) ≤ (i : Int) := by omega
      have hj1 : (i : Int) < (m : Int) := by omega
      have hcell := HAT.out i hil
      have hjt := joined_take L i hil
      have hjl := joined_le L (i + 1)
      rw [hjt, List.length_append] at hjl
      obtain ⟨⟨A, c, xs⟩, hx⟩ : ∃ y, L[i] = y := ⟨_, rfl⟩
      rw [hx] at hcell hjt hjl
      simp only [sv] at hcell
      dsimp only at hjt hjl
      obtain ⟨s, hs⟩ : ∃ s, (joined (L.take i)).length = s := ⟨_, rfl⟩
      have hjs : (joined (L.take (i + 1))).length = s + xs.length := by rw [hjt, List.length_append, hs]
      rw [hs] at hjl ⊢
      have hsn : (s : Int) + (xs.length : Int) ≤ 1000000000 := by have := HL.out; omega
      have hw1 : wrap64 ((s : Int) + (xs.length : Int)) = (s : Int) + (xs.length : Int) := w64 _ (by omega) (by omega)
      have hw2 : IntKind.i64.wrap ((s : Int) + (xs.length : Int)) = (s : Int) + (xs.length : Int) := w64i _ (by omega) (by omega)
      have hneg : decide ((s : Int) + (xs.length : Int) < 0) = false := decide_eq_false (by omega)
      have HJS := Lib.hid hjs
      clear hjt hjl hx hs hjs
      go_wp2_with fail
      go_roundw
      case rel => exact ⟨i + 1, by rw [HJS.out]; go_num, by go_num, by omega, trivial⟩
      case measure => simp [intOf]; omega
    · have him : i = m := by omega
      subst him
      have htk : L.take i = L := List.take_of_length_le (by rw [HM.out]; exact Nat.le_refl _)
      rw [htk]
      clear htk
      go_wp2_with fail
      with_reducible refine (grow_calls _ _ HL.out.1 HL.out.2.1).mono ?_
      rintro e w1 ⟨A1, c1, rfl, hR1, hB1⟩
      rw [HBB.out] at hR1 hB1
      have HR1 := Aside0.mk hR1
      have HB1 := Aside0.mk hB1
      clear hR1 hB1
      go_wp2_with fail
      go_loopw [6, 27] (fun v6 v27 w2 => ∃ k : Nat, v27 = .int .i64 (k : Int) ∧ k ≤ i ∧ Aside0 (Rw w2 b v6 (joined (L.take k))) ∧ Aside0 (Below b wr w2)) (fun _ v27 _ => i - (intOf v27).toNat)
      case atStart => exact ⟨0, rfl, Nat.zero_le _, HR1, HB1⟩
      case round =>
        clear HR1 HB1
        obtain ⟨k, rfl, hk, HR2, HB2⟩ := hrel
        by_cases hlt : k < i
        · have hil : k < L.length := by rw [HM.out]; exact hlt
          have hj0 : (0 : Int) ≤ (k : Int) := by omega
          have hj1 : (k : Int) < (i : Int) := by omega
          have hcell := (HB2.out.cell (p := ⟨g, k, none⟩) (by rw [← HBB.out]; exact blk_lt HB.out)).trans (HAT.out k hil)
          have hC := Kd.C_below (HR.out _ (List.getElem_mem hil)) (by rw [HBB.out]; exact HB2.out)
          have hjt := joined_take L k hil
          have hjl := joined_le L (k + 1)
          rw [hjt, List.length_append] at hjl
          obtain ⟨⟨A, c, xs⟩, hx⟩ : ∃ y, L[k] = y := ⟨_, rfl⟩
          rw [hx] at hcell hjt hjl hC
          simp only [sv] at hcell
          dsimp only at hjt hjl hC
          obtain ⟨o, ho⟩ : ∃ o, joined (L.take k) = o := ⟨_, rfl⟩
          rw [ho] at hjt hjl HR2
          obtain ⟨A0, c0, rfl⟩ := Kd.R_slice HR2.out
          have HC := Aside0.mk hC
          have HJT := Lib.hid hjt
          have HAP := Lib.hid (show (o.length + xs.length) * 1 ≤ 140737488355328 by have := HL.out; omega)
          have HB8 := Lib.hid (show b ≤ wr.heap.size from Nat.le_trans (Nat.le_of_eq HBB.out.symm) HB2.out.size)
          clear hC hjt hjl hx ho
          go_wp2_with (first
            | ((with_reducible refine gate_builtin (b := .append) (xs := #[.tmp 31, .tmp 32]) rfl ?_); at_builtin; go_must (refine Kd.R_append_row (Value.int .u8) 0 (h1 := fun _ => rfl) (w0 := wr) b rfl (.tmp 31) (.tmp 32) 22 5 (.int .u8 0) 1 rfl Tryd.underlying22 info5 rfl (by decide) (.slice A0 o.length c0) o xs A xs.length c (fun k => b ≤ k) rfl rfl ?bF ?bO ?bC (Below.refl _ _) ?bB ?bL ?_); (case bF => exact fun q hq => Nat.le_trans HB8.out hq); (case bO => exact HR2.out); (case bC => exact HC.out); (case bB => exact HB8.out); (case bL => exact HAP.out); intro v' w9 ho9 hb9 hg9 hat9; rw [← HJT.out] at ho9; have HR9 := Aside0.mk ho9; have HB9 := Aside0.mk (HB2.out.trans hb9); obtain ⟨A9, c9, rfl⟩ := Kd.R_slice ho9; clear ho9 hb9 hg9 hat9)
            | fail)
          go_roundw
          case rel => exact ⟨k + 1, by go_num, by omega, HR9, HB9⟩
          case measure => simp [intOf]; omega
        · have hki : k = i := by omega
          subst hki
          have htk : L.take k = L := List.take_of_length_le (by rw [HM.out]; exact Nat.le_refl _)
          rw [htk] at HR2
          obtain ⟨A0, c0, rfl⟩ := Kd.R_slice HR2.out
          go_wp2_with fail
          refine bodyPost_ret (results_tmp rfl _ _ _) rfl ?_
          exact ⟨_, rfl, HR2.out, HB2.out⟩
end Go.Proofs.YtdhajdgcgjbdnaaDoor.Chunk

namespace Go.Proofs.YtdhajdgcgjbdnaaDoor.Chunk
open Go.RowKit Go.Shelf Go.Proofs.YtdhajdgcgjbdnaaDoor.G Go.Proofs.YtdhajdgcgjbdnaaDoorW.PrintWords Go.Proofs.YtdhajdgcgjbdnaaDoorW.PrintMore Go.Proofs.YtdhajdgcgjbdnaaDoor.Foot Go.Proofs.YtdhajdgcgjbdnaaDoor.Plain
attribute [local go_sem] Oper.semAt_some

/-- What a round may not turn: whatever lay there, but for one box. -/
def Kc (P n0 : Nat) (W W' : World) : Prop := W.heap.size ≤ W'.heap.size ∧ ∀ k, k < n0 → k ≠ P → W'.heap[k]? = W.heap[k]?
theorem kc_t {P n0 : Nat} {A B C : World} (h : Kc P n0 A B) (k : Kc P n0 B C) : Kc P n0 A C := ⟨Nat.le_trans h.1 k.1, fun i hi hp => (k.2 i hi hp).trans (h.2 i hi hp)⟩
theorem kc_b {P n0 : Nat} {w : World} (hn : n0 ≤ w.heap.size) (W : World) (l : Nat) (o o' : Obj) (hl : w.heap.size ≤ l) (h : W.heap[l]? = some o) (_ : o.isCells = false) (_ : o.isWalk = false) : Kc P n0 W (W.putObj l o') :=
  ⟨by simp, fun k hk _ => World.putObj_heap_other (by omega)⟩
/-- The first k starts of chunks of z. -/
def starts (z k : Nat) : List Nat := (List.range k).map (fun j => j * z)
theorem starts_succ (z k : Nat) : starts z (k + 1) = starts z k ++ [k * z] := by simp [starts, List.range_succ]
theorem starts_length (z k : Nat) : (starts z k).length = k := by simp [starts]
def cutV (A : Option Addr) (n z x : Nat) : Value := .slice (A.map (fun a => a.add x)) (min z (n - x)) (min z (n - x))
set_option maxHeartbeats 4000000 in
set_option maxRecDepth 100000 in
theorem chunk_calls (A : Option Addr) (n c : Nat) (z : Int) (w : World) (hz : 1 ≤ z) :
    CallsIn Fence.wide 5 Tryd.prog 18 #[.slice A n c, .int .i64 z] w fun e w' =>
      e = .returned (.func (.func 29) #[] #[.pointer (some ⟨w.heap.size, 0, none⟩), .pointer (some ⟨w.heap.size + 1, 0, none⟩)]) ∧ w' = (w.alloc (.cells #[.slice A n c] 22)).alloc (.cells #[.int .i64 z] 3) := by
  refine callsIn_wide.2 ?_
  have hz0 : decide (z < 1) = false := decide_eq_false (by omega)
  go_enter Tryd.func18, Tryd.ntmps18
  go_wp2
  go_ret
  exact ⟨rfl, rfl⟩
theorem sum_fits {k i z n : Nat} (h : k = 0 ∧ i = 0 ∨ z ≤ i) (hlt : i < n) (hn : n ≤ 1000000000) (hz : z ≤ 9223372036854775807) : wrap64 ((i : Int) + (z : Int)) = (i : Int) + (z : Int) ∧ IntKind.i64.wrap ((i : Int) + (z : Int)) = (i : Int) + (z : Int) := by
  have h0 : (0 : Int) ≤ (i : Int) + (z : Int) ∧ (i : Int) + (z : Int) ≤ 9223372036854775807 := by omega
  generalize (i : Int) + (z : Int) = q at h0 ⊢
  refine ⟨by unfold wrap64; omega, by rw [IntKind.wrap_i64]; omega⟩
theorem cut_l (A : Option Addr) (n c i : Nat) (h : i ≤ n) : ∃ A1, ∀ W : World, (Instr.slice 22 (.slice A n c) (some (.int .i64 (i : Int))) none none).run Tryd.prog W = .ok (.slice A1 (n - i) (c - i)) W := by
  obtain ⟨i0, hi0, _, hsz, _⟩ := info_parts info5
  have he : Tryd.prog.elem 22 = 5 := by kernel_rfl
  refine ⟨if c = i then A else A.map (fun a => a.add (i * 1)), fun W => ?_⟩
  rw [run_slice_l W 22 A n c (by rw [he]; exact Tryd.underlying22) .i64 (i : Int) (by omega) (by omega), he]
  simp [sizeOf, typeInfo, hi0, hsz, sliced, Result.andThen]
theorem cut_lhm (A : Option Addr) (n c i e : Nat) (h : i + e ≤ c) (he1 : 1 ≤ e) (W : World) : (Instr.slice 22 (.slice A n c) (some (.int .i64 (i : Int))) (some (.int .i64 ((i : Int) + (e : Int)))) (some (.int .i64 ((i : Int) + (e : Int))))).run Tryd.prog W = .ok (.slice (A.map (fun a => a.add i)) e e) W := by
  obtain ⟨i0, hi0, _, hsz, _⟩ := info_parts info5
  have he : Tryd.prog.elem 22 = 5 := by kernel_rfl
  rw [run_slice_lhm W 22 A n c (by rw [he]; exact Tryd.underlying22) .i64 .i64 .i64 (i : Int) ((i : Int) + (e : Int)) ((i : Int) + (e : Int)) (by omega) (by omega) (by omega) (by omega), he]
  have h1 : ((i : Int) + (e : Int)).toNat = i + e := by omega
  have h2 : ¬ i + e = i := by omega
  have h3 : i + e - i = e := by omega
  simp [sizeOf, typeInfo, hi0, hsz, sliced, Result.andThen, h1, h2, h3]
  omega
set_option maxHeartbeats 4000000 in
set_option maxRecDepth 100000 in
/-- The iterator, at every loop body that keeps the two boxes. -/
theorem chunk1_in (l P B n0 : Nat) (A : Option Addr) (n c z : Nat) (hB : B + 1 < n0) (hP1 : B ≠ P) (hP2 : B + 1 ≠ P) (hz : 1 ≤ z) (hz2 : z ≤ 9223372036854775807) (hn : n ≤ 1000000000) (hc : n ≤ c) (J Jx : List Nat → World → Prop)
    (hY : ∀ pre x W, J pre W → pre.length < n → x < n → YieldAt Fence.wide (5 - 1) Tryd.prog l #[cutV A n z x] W fun e W' =>
      (e = .returned (.bool true) ∧ J (pre ++ [x]) W' ∧ Kc P n0 W W') ∨ (e = .returned (.bool false) ∧ Jx (pre ++ [x]) W'))
    (W : World) (hb1 : W.heap[B]? = some (.cells #[.slice A n c] 22 (0, 0))) (hb2 : W.heap[B + 1]? = some (.cells #[.int .i64 (z : Int)] 3 (0, 0))) (h0 : J [] W) (hdr : ∀ pre W, J pre W → J pre W.drew) :
    CallsIn Fence.wide 5 Tryd.prog 29 #[.func (.yield l) #[] #[], .pointer (some ⟨B, 0, none⟩), .pointer (some ⟨B + 1, 0, none⟩)] W fun e W' => (∃ v, e = .returned v) ∧
      ((∃ ys, (∃ k, ys = starts z k ∧ n ≤ k * z ∧ (k = 0 ∨ (k - 1) * z < n)) ∧ J ys W') ∨ (∃ pre, (∃ k, pre = starts z k) ∧ Jx pre W')) := by
  have HY := Lib.hid hY
  have HDR := Lib.hid hdr
  have HB1 := Lib.hid hb1
  have HB2 := Lib.hid hb2
  have HC := Lib.hid hc
  have h1 := blk_cell hb1 0
  have h2 := blk_cell hb2 0
  clear hb1 hb2 hY hdr hc
  refine callsIn_of_wp Tryd.func29 rfl trivial ?_ rfl
  simp only [Tryd.ntmps29, List.size_toArray, List.length_cons, List.length_nil, Nat.reduceAdd, Nat.reduceSub, Array.replicate_succ, Array.replicate_zero, List.push_toArray, List.append_toArray, List.nil_append, List.cons_append]
  gi_wp2
  gi_loopw [4] (fun i wr => ∃ k : Nat, i = .int .i64 ((k * z : Nat) : Int) ∧ (k = 0 ∨ (k - 1) * z < n) ∧ J (starts z k) wr ∧ wr.heap[B]? = some (.cells #[.slice A n c] 22 (0, 0)) ∧ wr.heap[B + 1]? = some (.cells #[.int .i64 (z : Int)] 3 (0, 0)))
    (fun i _ => n + n + 1 - (intOf i).toNat)
  case atStart => exact ⟨0, by simp, .inl rfl, h0, HB1.out, HB2.out⟩
  case round =>
    obtain ⟨k, rfl, hk, hJ, hb1, hb2⟩ := hrel
    have HBR1 := Lib.hid hb1
    have HBR2 := Lib.hid hb2
    have hc1 : wr.cell? ⟨B, 0, none⟩ = some (.slice A n c) := blk_cell hb1 0
    have hc2 : wr.cell? ⟨B + 1, 0, none⟩ = some (.int .i64 (z : Int)) := blk_cell hb2 0
    have HJ := Aside0.mk hJ
    obtain ⟨i, hi⟩ : ∃ i, k * z = i := ⟨_, rfl⟩
    rw [hi]
    clear h1 h2 hb1 hb2 hJ h0
    by_cases hlt : i < n
    · have hj0 : (0 : Int) ≤ (i : Int) := by omega
      have hj1 : (i : Int) < (n : Int) := by omega
      obtain ⟨A1, hcut⟩ := cut_l A n c i (by omega)
      obtain ⟨e, he⟩ : ∃ e, min z (n - i) = e := ⟨_, rfl⟩
      have he1 : 1 ≤ e ∧ e ≤ n - i ∧ e ≤ z := by omega
      have hmin : min (z : Int) ((n - i : Nat) : Int) = (e : Int) := by omega
      obtain ⟨r, hr⟩ : ∃ r, n - i = r := ⟨_, rfl⟩
      rw [hr] at hmin hcut
      have HE := Lib.hid he
      have HE1 := Lib.hid he1
      have HRR := Lib.hid hr
      clear he he1 hr
      gi_wp2
      refine wpIn_wide.2 ?_
      refine wp_region_still_lit (by kernel_rfl) (by kernel_rfl) ?_
      repeat still_step
      refine wpStill_nil ?_
      change Exit.then _ _ _ _ wr.drew
      have HJ2 := Aside0.mk (HDR.out _ _ HJ.out)
      have hc1 : wr.drew.cell? ⟨B, 0, none⟩ = some (.slice A n c) := hc1
      have hc2 : wr.drew.cell? ⟨B + 1, 0, none⟩ = some (.int .i64 (z : Int)) := hc2
      have HBR1 := Lib.hid (show wr.drew.heap[B]? = _ from HBR1.out)
      have HBR2 := Lib.hid (show wr.drew.heap[B + 1]? = _ from HBR2.out)
      generalize wr.drew = w2 at HJ2 hc1 hc2 HBR1 HBR2 ⊢
      clear HJ hcut hmin
      have hzk : k ≤ i ∧ (k = 0 ∧ i = 0 ∨ z ≤ i) := by
        rcases Nat.eq_zero_or_pos k with h | h
        · subst h
          rw [Nat.zero_mul] at hi
          exact ⟨by omega, .inl ⟨rfl, hi.symm⟩⟩
        · have h1 := Nat.mul_le_mul_left k hz
          have h2 := Nat.mul_le_mul_right z h
          omega
      have hcl := HC.out
      have he1 := HE1.out
      have hie : i + e ≤ n := by clear hzk hk hi; omega
      have hie2 : (0 : Int) ≤ (i : Int) + (e : Int) ∧ (i : Int) + (e : Int) ≤ 9000000000000000000 := by clear hzk hk hi he1; omega
      have hc3 := cut_lhm A n c i e (Nat.le_trans hie hcl) he1.1
      have hwe : wrap64 ((i : Int) + (e : Int)) = (i : Int) + (e : Int) := w64 _ hie2.1 hie2.2
      have hwe2 : IntKind.i64.wrap ((i : Int) + (e : Int)) = (i : Int) + (e : Int) := w64i _ hie2.1 hie2.2
      obtain ⟨fn, tmps, assign, body, hy, hR⟩ := HY.out (starts z k) i w2 HJ2.out (by rw [starts_length]; exact Nat.lt_of_le_of_lt hzk.1 hlt) hlt
      simp only [cutV] at hy
      rw [HE.out] at hy
      have HR := Lib.hid hR
      have HZK := Lib.hid hzk
      clear hR hzk hcl he1 hie hie2
      gi_wp2
      refine HR.out.mono ?_
      rintro e' W3 (⟨rfl, hJ3, hk3⟩ | ⟨rfl, hJx3⟩)
      · have hb31 := (hk3.2 B (by omega) hP1).trans HBR1.out
        have hb32 := (hk3.2 (B + 1) hB hP2).trans HBR2.out
        have hc31 : W3.cell? ⟨B, 0, none⟩ = some (.slice A n c) := blk_cell hb31 0
        have hc32 : W3.cell? ⟨B + 1, 0, none⟩ = some (.int .i64 (z : Int)) := blk_cell hb32 0
        have HJ3 := Aside0.mk hJ3
        have H31 := Lib.hid hb31
        have H32 := Lib.hid hb32
        have hiz := sum_fits HZK.out.2 hlt hn hz2
        have hwz : wrap64 ((i : Int) + (z : Int)) = (i : Int) + (z : Int) := hiz.1
        have hwz2 : IntKind.i64.wrap ((i : Int) + (z : Int)) = (i : Int) + (z : Int) := hiz.2
        have hkz : (k + 1) * z = i + z := by rw [Nat.succ_mul, hi]
        have hkn : (k + 1 - 1) * z < n := by rw [Nat.add_sub_cancel, hi]; exact hlt
        have hst : starts z (k + 1) = starts z k ++ [i] := by rw [starts_succ, hi]
        have HH := Lib.hid (show (k + 1) * z = i + z ∧ (k + 1 - 1) * z < n ∧ starts z (k + 1) = starts z k ++ [i] from ⟨hkz, hkn, hst⟩)
        clear hk3 hJ3 hb31 hb32 hkz hkn hst hi
        gi_wp2
        go_roundw
        case rel => exact ⟨k + 1, by rw [HH.out.1]; go_num, .inr HH.out.2.1, by rw [HH.out.2.2]; exact HJ3.out, H31.out, H32.out⟩
        case measure => simp [intOf]; omega
      · have HJX := Lib.hid hJx3
        have HST := Lib.hid (show starts z (k + 1) = starts z k ++ [i] by rw [starts_succ, hi])
        clear hJx3
        gi_wp2
        refine bodyPost_ret (results_none rfl _ _ _) rfl ?_
        exact ⟨⟨_, rfl⟩, .inr ⟨_, ⟨k + 1, HST.out.symm⟩, HJX.out⟩⟩
    · have hlt1 : decide ((i : Int) < (n : Int)) = false := decide_eq_false (by omega)
      have HK := Lib.hid (show n ≤ k * z by omega)
      gi_wp2
      go_end0
      exact ⟨⟨_, rfl⟩, .inl ⟨_, ⟨k, rfl, HK.out, hk⟩, HJ.out⟩⟩
theorem grown_drew (W : World) : W.grownBy W.drew none := ⟨rfl, rfl, rfl, Nat.le_refl _, fun _ _ _ => rfl⟩
/-- What the library's iterator hands to a loop. -/
theorem chunk_stops (P B n0 : Nat) (A : Option Addr) (n c z : Nat) (hB : B + 1 < n0) (hP1 : B ≠ P) (hP2 : B + 1 ≠ P) (hz : 1 ≤ z) (hz2 : z ≤ 9223372036854775807) (hn : n ≤ 1000000000) (hc : n ≤ c) (w : World) (hw : n0 ≤ w.heap.size)
    (hb1 : w.heap[B]? = some (.cells #[.slice A n c] 22 (0, 0))) (hb2 : w.heap[B + 1]? = some (.cells #[.int .i64 (z : Int)] 3 (0, 0))) :
    SeqStopsK Fence.wide 5 Tryd.prog 29 #[.pointer (some ⟨B, 0, none⟩), .pointer (some ⟨B + 1, 0, none⟩)] (fun x : { x : Nat // x < n } => #[cutV A n z x.1]) (Kc P n0)
      (fun ys => ∃ k, ys.map (·.1) = starts z k ∧ n ≤ k * z ∧ (k = 0 ∨ (k - 1) * z < n)) (fun _ => True) n w := fun l J Jx W hW hJ hJx hY h0 => by
  refine (chunk1_in l P B n0 A n c z hB hP1 hP2 hz hz2 hn hc (fun pre W => ∃ p : List { x : Nat // x < n }, p.map (·.1) = pre ∧ J p W) (fun pre W => ∃ p : List { x : Nat // x < n }, p.map (·.1) = pre ∧ Jx p W) ?_ W
    ((hW.block B (blk_lt hb1)).trans hb1) ((hW.block (B + 1) (blk_lt hb2)).trans hb2) ⟨[], rfl, h0⟩ ?_).mono ?_
  · rintro pre x W1 ⟨p, rfl, hp⟩ hl hx
    obtain ⟨fn, tmps, assign, body, hy, hR⟩ := hY p ⟨x, hx⟩ W1 hp (by simpa using hl)
    refine ⟨fn, tmps, assign, body, hy, hR.mono ?_⟩
    rintro e W' (⟨he, hj, hk⟩ | ⟨he, hj⟩)
    · exact .inl ⟨he, ⟨_, by simp, hj⟩, hk⟩
    · exact .inr ⟨he, _, by simp, hj⟩
  · rintro pre W1 ⟨p, hp, hj⟩
    exact ⟨p, hp, hJ p W1 W1.drew none hj (grown_drew W1) (fun r e => by cases e)⟩
  · rintro e W' ⟨he, ⟨ys, ⟨k, rfl, h1, h2⟩, p, hp, hj⟩ | ⟨pre, ⟨k, rfl⟩, p, hp, hj⟩⟩
    · exact ⟨he, .inl ⟨p, ⟨k, hp, h1, h2⟩, hj⟩⟩
    · exact ⟨he, .inr ⟨p, trivial, hj⟩⟩
end Go.Proofs.YtdhajdgcgjbdnaaDoor.Chunk
