/- A reader of a body in chunks: what stops it; a line is taken. A chunk's length is read. A line's end; trailers. Trailers. A body is read. A stop is caught. A body is opened. -/
import Derived.Test.YtdhajdgcgjbdnaaDoorChunkL
import Derived.Test.YtdhajdgcgjbdnaaDoorBx
import Derived.Test.YtdhajdgcgjbdnaaDoorSto
import Derived.Test.YtdhajdgcgjbdnaaDoorGx0
import Derived.Tactics
import Derived.Tactics2
import Derived.Defers
import Derived.Recover
import Derived.WalkLawsBesides
import Derived.Laws.Pointers
import Derived.Outline
import Derived.StillTailTactics
import Derived.Deep.DeepMust
import Derived.Test.YtdhajdgcgjbdnaaDoorGx1
import Derived.Laws.BitsAllLaws
import Derived.Laws.Bits64
import Derived.Test.YtdhajdgcgjbdnaaDoorHeadLists
import Derived.Lib.SlBytesConst
import Derived.Test.YtdhajdgcgjbdnaaDoorGx2
import Derived.Test.YtdhajdgcgjbdnaaDoorLits
import Derived.Test.YtdhajdgcgjbdnaaDoorOrdE
set_option linter.unusedVariables false
set_option linter.unusedSimpArgs false
namespace Go.Proofs.YtdhajdgcgjbdnaaDoor.Chunk
open Go.RowKit Go.Proofs.YtdhajdgcgjbdnaaDoor.G Go.Proofs.YtdhajdgcgjbdnaaDoorW.PrintWords Go.Proofs.YtdhajdgcgjbdnaaDoorW.PrintMore Go.Proofs.YtdhajdgcgjbdnaaDoor.Foot

theorem w64 (n : Int) (h0 : 0 ≤ n) (h1 : n ≤ 9000000000000000000) : wrap64 n = n := by unfold wrap64; omega
theorem w64i (n : Int) (h0 : 0 ≤ n) (h1 : n ≤ 9000000000000000000) : IntKind.i64.wrap n = n := by rw [IntKind.wrap_i64]; omega
/-- The panic of a reading that stops. -/
def stop (n : Int) : PanicEntry := { v := .iface 44 (.agg #[.int .i64 n]), recovered := false }
theorem must_yes (n : Int) (W : World) : Calls Tryd.prog 35 #[.bool true, .int .i64 n] W fun e w' => e = .returned (.tuple #[]) ∧ w' = W := by
  go_enter Tryd.func35, Tryd.ntmps35
  go_wp2
  go_end0
  exact ⟨rfl, rfl⟩
theorem must_no (n : Int) (W : World) : Calls Tryd.prog 35 #[.bool false, .int .i64 n] W fun e w' => e = .panicked [stop n] ∧ w' = W := by
  go_enter Tryd.func35, Tryd.ntmps35
  go_wp2
  simp [bodyPost, stop]
/-- A reader in its block: its bytes, how far they were read. -/
abbrev RO (A : Option Addr) (n c : Nat) (i : Nat) : Obj := .cells #[.slice A n c, .int .i64 (i : Int)] 48 (0, 0)
def LinePost (p : Nat) (A : Option Addr) (c : Nat) (xs : List Int) (i : Nat) (w : World) (e : Ending) (w' : World) : Prop :=
  Keeps (fun k => k = p) w w' ∧ match lineG (xs.drop i) 0 with
    | .ok (s, r) => e = .returned (.string (strOfNums s)) ∧ w'.heap[p]? = some (RO A xs.length c (xs.length - r.length))
    | .bad n => e = .panicked [stop n]
theorem rd_drop (xs : List Int) (i : Nat) (h : i < xs.length) : xs.drop i = rd xs i :: xs.drop (i + 1) := by
  rw [List.drop_eq_getElem_cons h]
  unfold rd
  rw [Int.toNat_natCast, List.getD_eq_getElem?_getD, List.getElem?_eq_getElem h]
  rfl
theorem take_rd (xs : List Int) (i k : Nat) (h : i + k < xs.length) : (xs.drop i).take (k + 1) = (xs.drop i).take k ++ [rd xs ((i + k : Nat) : Int)] := by
  rw [List.take_add_one, List.getElem?_drop, List.getElem?_eq_getElem h]
  unfold rd
  rw [Int.toNat_natCast, List.getD_eq_getElem?_getD, List.getElem?_eq_getElem h]
  rfl
theorem cut_mid (A : Option Addr) (c : Nat) (xs : List Int) (a b : Nat) (h1 : a ≤ b) (h2 : b ≤ xs.length) (hc : xs.length ≤ c) :
    ∃ A' : Option Addr, (∀ W : World, (Instr.slice 22 (.slice A xs.length c) (some (.int .i64 (a : Int))) (some (.int .i64 (b : Int))) none).run Tryd.prog W = .ok (.slice A' (b - a) (c - a)) W) ∧ ∀ w : World, Kd.C (Kd.int .u8) w A xs.length xs → Kd.C (Kd.int .u8) w A' (b - a) ((xs.drop a).take (b - a)) := by
  obtain ⟨i0, hi0, _, hsz, _⟩ := info_parts info5
  obtain ⟨A', hcut, hA, _⟩ := print_mid_of (P := Tryd.prog) (Value.int .u8) 0 22 5 .i64 .i64 Tryd.underlying22 hi0 hsz A c xs a b (by omega) (by omega) (by omega) hc
  have hln : (List.drop (a : Int).toNat (List.take (b : Int).toNat xs)).length = b - a := by rw [List.length_drop, List.length_take]; omega
  have he : List.drop (a : Int).toNat (List.take (b : Int).toNat xs) = (xs.drop a).take (b - a) := by rw [Int.toNat_natCast, Int.toNat_natCast, List.drop_take]
  rw [hln] at hcut hA
  rw [he] at hA
  rw [Int.toNat_natCast] at hcut
  have hlt : ((xs.drop a).take (b - a)).length = b - a := by rw [← he]; exact hln
  exact ⟨A', hcut, fun w h => Kd.C_of_reads (enc := Value.int .u8) (d := 0) (h1 := fun _ => rfl) (hA w (Kd.reads_of_C (enc := Value.int .u8) (d := 0) (h1 := fun _ => rfl) h))⟩
set_option maxHeartbeats 4000000 in
set_option maxRecDepth 100000 in
theorem line_calls (p : Nat) (A : Option Addr) (c : Nat) (xs : List Int) (i : Nat) (w : World) (hb : w.heap[p]? = some (RO A xs.length c i)) (hC : Kd.C (Kd.int .u8) w A xs.length xs) (hc : xs.length ≤ c) (hl : xs.length ≤ 1000000000) (hi : i ≤ xs.length) :
    Calls Tryd.prog 33 #[.pointer (some ⟨p, 0, none⟩)] w (LinePost p A c xs i w) := by
  have HB := Lib.hid hb
  have HC := Lib.hid hC
  have HCC := Lib.hid hc
  have HL := Lib.hid hl
  have hp0 : w.cell? ⟨p, 0, none⟩ = some (.slice A xs.length c) := blk_cell hb 0
  have hp1 : w.cell? ⟨p, 1, none⟩ = some (.int .i64 (i : Int)) := blk_cell hb 1
  have hz1 : w.frozen? ⟨p, 1, none⟩ = false := blk_frozen hb 1
  have HI := Lib.hid hi
  clear hb hC hc
  go_enter Tryd.func33, Tryd.ntmps33
  go_wp2_with fail
  go_loopw [3] (fun v3 wr => ∃ j : Nat, v3 = .int .i64 (j : Int) ∧ i ≤ j ∧ j ≤ xs.length ∧ wr = w ∧ Aside0 (lineG (xs.drop i) 0 = front ((xs.drop i).take (j - i)) (lineG (xs.drop j) (j - i)))) (fun v3 _ => xs.length - (intOf v3).toNat)
  case atStart => exact ⟨i, rfl, Nat.le_refl _, HI.out, rfl, ⟨by rw [Nat.sub_self, List.take_zero, front_nil]⟩⟩
  case round =>
    obtain ⟨j, rfl, hij, hj, rfl, HG⟩ := hrel
    by_cases hlt : j < xs.length
    · have hj0 : (0 : Int) ≤ (j : Int) := by omega
      have hj1 : (j : Int) < (xs.length : Int) := by omega
      obtain ⟨ad, hA, hcell⟩ := Kd.at_int HC.out (j : Int) hj0 hj1
      rw [Int.toNat_natCast] at hcell
      have hd := rd_drop xs j hlt
      have HD := Lib.hid hd
      clear hd
      subst hA
      have hw1 : wrap64 ((j : Int) + 1) = (j : Int) + 1 := w64 _ (by omega) (by have := HL.out; omega)
      have hw2 : IntKind.i64.wrap ((j : Int) + 1) = (j : Int) + 1 := w64i _ (by omega) (by have := HL.out; omega)
      have hw3 : wrap64 ((j : Int) + 2) = (j : Int) + 2 := w64 _ (by omega) (by have := HL.out; omega)
      have hw4 : IntKind.i64.wrap ((j : Int) + 2) = (j : Int) + 2 := w64i _ (by omega) (by have := HL.out; omega)
      by_cases h13 : rd xs (j : Int) = 13
      · rw [h13] at hcell
        by_cases hlt2 : j + 1 < xs.length
        · have hj2 : (j : Int) + 1 < (xs.length : Int) := by omega
          have hj3 : (0 : Int) ≤ (j : Int) + 1 := by omega
          obtain ⟨ad2, hA2, hcell2⟩ := Kd.at_int HC.out ((j : Int) + 1) hj3 hj2
          injection hA2 with hA2
          subst hA2
          rw [show ((j : Int) + 1).toNat = j + 1 by omega] at hcell2
          have hcell3 : wr.cell? { block := ad.block, off := ad.off + (j + 1) } = some (.int .u8 (rd xs ((j : Int) + 1))) := hcell2
          by_cases h10 : rd xs ((j : Int) + 1) = 10
          · rw [h10] at hcell2 hcell3
            go_wp2_with fail
            with_reducible refine (must_yes _ _).mono ?_
            rintro e w1 ⟨rfl, rfl⟩
            go_wp2_with fail
            with_reducible refine (must_yes _ _).mono ?_
            rintro e w1 ⟨rfl, rfl⟩
            go_wp2_with fail
            obtain ⟨A', hcut, hcr⟩ := cut_mid (some ad) c xs i j hij hj HCC.out
            have hcv := Kd.C_string (P := Tryd.prog) (c := c - i) Tryd.underlying22 Tryd.underlying5 Tryd.underlying9 (hcr _ (Kd.C_below HC.out (below_drew (Below.refl _ _))))
            have hcv : Sem.run Tryd.prog (convert 22 9 (.slice A' (j - i) (c - i))) { heap := w1.heap, tape := w1.tape, drawn := w1.drawn + 1, os := w1.os, output := w1.output } = Result.ok (.string (strOfNums ((xs.drop i).take (j - i)))) { heap := w1.heap, tape := w1.tape, drawn := w1.drawn + 1, os := w1.os, output := w1.output } := hcv
            refine wp_region_still_lit (by kernel_rfl) (by kernel_rfl) ?_
            repeat still_step
            refine wpStill_nil ?_
            change Exit.then _ _ _ _ w1.drew
            have HB2 := Aside0.mk (show w1.drew.heap[p]? = _ from HB.out)
            have HK2 := Aside0.mk (Keeps.refl (fun k => k = p) w1).drew
            have hp0 : w1.drew.cell? ⟨p, 0, none⟩ = some (.slice (some ad) xs.length c) := hp0
            have hp1 : w1.drew.cell? ⟨p, 1, none⟩ = some (.int .i64 (i : Int)) := hp1
            have hz1 : w1.drew.frozen? ⟨p, 1, none⟩ = false := hz1
            generalize w1.drew = w2 at HB2 HK2 hp0 hp1 hz1 ⊢
            go_wp2_with fail
            refine bodyPost_ret (results_tmp rfl _ _ _) rfl ?_
            refine ⟨HK2.out.setCell (p := ⟨p, 1, none⟩) (.inl rfl) _, ?_⟩
            have hg := HG.out
            rw [HD.out, h13, lineG, if_pos rfl, rd_drop xs (j + 1) hlt2, show ((j + 1 : Nat) : Int) = (j : Int) + 1 by omega, h10, crG, if_pos rfl, none1, front, List.append_nil] at hg
            rw [hg]
            refine ⟨rfl, ?_⟩
            have := blk_put HB2.out 1 (.int .i64 ((j : Int) + 2)) rfl
            rw [List.length_drop, show xs.length - (xs.length - (j + 1 + 1)) = j + 2 by omega]
            exact this
          · have b10 : (rd xs ((j : Int) + 1) == 10) = false := by simpa using h10
            go_wp2_with fail
            with_reducible refine (must_yes _ _).mono ?_
            rintro e w1 ⟨rfl, rfl⟩
            go_wp2_with fail
            with_reducible refine (must_no _ _).mono ?_
            rintro e w1 ⟨rfl, rfl⟩
            go_wp2_with fail
            simp only [bodyPost]
            refine ⟨trivial, Keeps.refl _ _, ?_⟩
            have hg := HG.out
            rw [HD.out, h13, lineG, if_pos rfl, rd_drop xs (j + 1) hlt2, show ((j + 1 : Nat) : Int) = (j : Int) + 1 by omega, crG, if_neg h10, none1, front] at hg
            rw [hg]
        · have hj2 : decide ((j : Int) + 1 < (xs.length : Int)) = false := decide_eq_false (by omega)
          go_wp2_with fail
          with_reducible refine (must_no _ _).mono ?_
          rintro e w1 ⟨rfl, rfl⟩
          go_wp2_with fail
          simp only [bodyPost]
          refine ⟨trivial, Keeps.refl _ _, ?_⟩
          have hg := HG.out
          rw [HD.out, h13, lineG, if_pos rfl, show xs.drop (j + 1) = [] from List.drop_eq_nil_of_le (by omega), crG, none1, front] at hg
          rw [hg]
      · have b13 : (rd xs (j : Int) == 13) = false := by simpa using h13
        by_cases h10 : rd xs (j : Int) = 10
        · have hg := HG.out
          rw [HD.out, lineG, if_neg h13, if_pos (.inl h10), front] at hg
          rw [h10] at hcell
          go_wp2_with fail
          with_reducible refine (must_no _ _).mono ?_
          rintro e w1 ⟨rfl, rfl⟩
          go_wp2_with fail
          simp only [bodyPost]
          refine ⟨trivial, Keeps.refl _ _, ?_⟩
          rw [hg]
        · have b10 : (rd xs (j : Int) == 10) = false := by simpa using h10
          have b10' : (rd xs (j : Int) != 10) = true := by simpa using h10
          have hw5 : wrap64 ((j : Int) - (i : Int)) = (j : Int) - (i : Int) := w64 _ (by omega) (by have := HL.out; omega)
          have hw6 : IntKind.i64.wrap ((j : Int) - (i : Int)) = (j : Int) - (i : Int) := w64i _ (by omega) (by have := HL.out; omega)
          by_cases hk : j - i < 1024
          · have hk1 : (j : Int) - (i : Int) < 1024 := by omega
            go_wp2_with fail
            with_reducible refine (must_yes _ _).mono ?_
            rintro e w1 ⟨rfl, rfl⟩
            go_wp2_with fail
            go_roundw
            case rel =>
              refine ⟨j + 1, by go_num, by omega, by omega, trivial, ⟨?_⟩⟩
              rw [HG.out, HD.out, front_step _ _ _ _ h13 h10 hk, show j + 1 - i = j - i + 1 by omega, take_rd xs i (j - i) (by omega), show i + (j - i) = j by omega]
            case measure => simp [intOf]; omega
          · have hk1 : decide ((j : Int) - (i : Int) < 1024) = false := decide_eq_false (by omega)
            have hg := HG.out
            rw [HD.out, lineG, if_neg h13, if_pos (.inr (by omega)), front] at hg
            go_wp2_with fail
            with_reducible refine (must_no _ _).mono ?_
            rintro e w1 ⟨rfl, rfl⟩
            go_wp2_with fail
            simp only [bodyPost]
            refine ⟨trivial, Keeps.refl _ _, ?_⟩
            rw [hg]
    · have hjn : j = xs.length := by omega
      subst hjn
      have hg := HG.out
      rw [List.drop_length, lineG, front] at hg
      have HG2 := Lib.hid hg
      clear HG hg
      go_wp2_with fail
      simp only [bodyPost]
      refine ⟨trivial, Keeps.refl _ _, ?_⟩
      rw [HG2.out]
      rfl
end Go.Proofs.YtdhajdgcgjbdnaaDoor.Chunk

namespace Go.Proofs.YtdhajdgcgjbdnaaDoor.Chunk
open Go.RowKit Go.Proofs.YtdhajdgcgjbdnaaDoor.G Go.Proofs.YtdhajdgcgjbdnaaDoorW.PrintWords Go.Proofs.YtdhajdgcgjbdnaaDoorW.PrintMore Go.Proofs.YtdhajdgcgjbdnaaDoor.Foot Go.Proofs.YtdhajdgcgjbdnaaDoor.Plain

theorem value_x (l : List Int) : valueL (120 :: (l ++ [120])) = textL l := by
  have h1 : trimL (120 :: (l ++ [120])) = 120 :: (l ++ [120]) := by
    unfold trimL
    rw [List.dropWhile_cons, if_neg (by decide)]
    unfold backL
    rw [show (120 :: (l ++ [120]) : List Int).reverse = 120 :: (l.reverse ++ [120]) by simp, List.dropWhile_cons, if_neg (by decide)]
    simp
  unfold valueL
  rw [h1]
  unfold textL
  rw [List.all_cons, List.all_append, show textC 120 = true by decide]
  simp
  intro h; decide
theorem bytesOf_ev (s : ByteArray) (hs : s.size ≤ 1000000000) : Ev (fun k => chunk_bytesOf.f k s) (textL (bytesOf s)) := by
  refine Ev.congr (fun k => chunk_bytesOf.f.eq_1 k s) (ev_pos (by omega) (ev_pos (by rw [ByteArray.size_append]; show 1 + s.size + 1 ≤ _; omega) ?_))
  refine ev_bind (value_head _ (by rw [ByteArray.size_append, ByteArray.size_append]; show 1 + s.size + 1 ≤ _; omega)) (ev_ret ?_)
  rw [bytes_append, bytes_append]
  exact value_x (bytesOf s)
theorem i64_or16 (n v : Nat) (hn : n < 1000000000000) (hv : v < 16) : bits .or .i64 ((n : Int) * 16) (v : Int) = (n : Int) * 16 + (v : Int) := by
  have e : (n : Int) * 16 = ((n * 16 : Nat) : Int) := by omega
  rw [e]
  show IntKind.i64.wrap ((BitVec.ofInt 64 ((n * 16 : Nat) : Int) ||| BitVec.ofInt 64 (v : Int)).toNat : Int) = _
  rw [BitVec.toNat_or, ofInt_u64 _ (by omega), ofInt_u64 v (by omega), nat_join 4 _ _ (by omega) (by omega), IntKind.wrap_i64]
  omega
theorem or_hex (n : Nat) (v : Int) (hn : n < 1000000000000) (h0 : 0 ≤ v) (h1 : v < 16) : bits .or .i64 ((n : Int) * 16) v = (n : Int) * 16 + v := by
  obtain ⟨V, rfl⟩ := Int.eq_ofNat_of_zero_le h0
  exact i64_or16 n V hn (by omega)
theorem pow_step {n i : Nat} {v : Int} (hn : n < 16 ^ i) (h0 : 0 ≤ v) (h1 : v ≤ 15) : n * 16 + v.toNat < 16 ^ (i + 1) := by
  rw [Nat.pow_succ]
  generalize 16 ^ i = q at hn ⊢
  omega
theorem pow_le {n i : Nat} (hn : n < 16 ^ i) (hi : i ≤ 8) : n < 4294967296 := by
  have := Nat.pow_le_pow_right (show 0 < 16 by decide) hi
  exact Nat.lt_of_lt_of_le hn this
def LengthPost (s : ByteArray) (w : World) (e : Ending) (w' : World) : Prop := Drawn0 w w' ∧ match lenG textL (bytesOf s) 0 0 with
  | some n => e = .returned (.int .i64 (n : Int))
  | none => e = .panicked [stop 94]
theorem bt_drop (s : ByteArray) (i : Nat) (h : i < s.size) : (bytesOf s).drop i = bt s i :: (bytesOf s).drop (i + 1) := by
  have hsz := size_bytes s
  rw [bt_nat, drop_cons (bytesOf s) 0 (by omega)]
set_option maxHeartbeats 4000000 in
set_option maxRecDepth 100000 in
theorem length_calls (s : ByteArray) (w : World) (hs : s.size ≤ 1000000000) :
    Calls Tryd.prog 32 #[.string s] w (LengthPost s w) := by
  have hsz := size_bytes s
  have HSZ := Lib.hid hsz
  clear hsz
  go_enter Tryd.func32, Tryd.ntmps32
  go_wp2_with fail
  go_loopw [3, 4] (fun v3 v4 wr => ∃ n i : Nat, v3 = .int .i64 (n : Int) ∧ v4 = .int .i64 (i : Int) ∧ i ≤ s.size ∧ i ≤ 8 ∧ n < 16 ^ i ∧ wr = w ∧ Aside0 (lenG textL (bytesOf s) 0 0 = lenG textL ((bytesOf s).drop i) i n)) (fun v3 v4 _ => s.size - (intOf v4).toNat)
  case atStart => exact ⟨0, 0, rfl, rfl, Nat.zero_le _, Nat.zero_le _, by decide, rfl, ⟨rfl⟩⟩
  case round =>
    obtain ⟨n, i, rfl, rfl, hi, hi8, hn, rfl, HG⟩ := hrel
    by_cases hlt : i < s.size
    · have hj0 : (0 : Int) ≤ (i : Int) := by omega
      have hj1 : (i : Int) < (s.size : Int) := by omega
      have hd := bt_drop s i hlt
      have hr := bt_range s (i : Int)
      obtain ⟨c, hc⟩ : ∃ c, bt s (i : Int) = c := ⟨_, rfl⟩
      rw [hc] at hd hr
      have HD := Lib.hid hd
      clear hd
      have hx : ∀ h : i < s.size, ((s[i]'h).toNat : Int) = c := fun h => (bt_at s (i : Int) h).trans hc
      obtain ⟨hr0, hr1⟩ := hr
      by_cases hA : 48 ≤ c ∧ c ≤ 57
      · obtain ⟨h1, h2⟩ := hA
        have hn36 := pow_le hn hi8
        have hsh : wrap64 ((n : Int) * 16) = (n : Int) * 16 := w64 _ (by omega) (by omega)
        have hsi : IntKind.i64.wrap ((n : Int) * 16) = (n : Int) * 16 := w64i _ (by omega) (by omega)
        have hor := or_hex n (c - 48) (by omega) (by omega) (by omega)
        have hv : hexV c = c - 48 := by unfold hexV; rw [if_pos ⟨h1, h2⟩]
        have hg := HG.out
        rw [HD.out, lenG, if_neg (by rw [hv]; omega)] at hg
        by_cases h8 : i < 8
        · rw [if_neg (by omega), hv] at hg
          have HG2 := Aside0.mk hg
          have h8i : (i : Int) < 8 := by omega
          clear hg hv
          have hps := pow_step hn (show 0 ≤ c - 48 by omega) (by omega)
          have HPS := Lib.hid hps
          clear hps
          go_wp2_with fail
          with_reducible refine (must_yes _ _).mono ?_
          rintro e w1 ⟨rfl, rfl⟩
          go_wp2_with fail
          go_roundw
          case rel => exact ⟨n * 16 + (c - 48).toNat, i + 1, by simp only [Value.int.injEq, true_and]; omega, by go_num, by omega, by omega, HPS.out, trivial, HG2⟩
          case measure => simp [intOf]; omega
        · rw [if_pos (by omega)] at hg
          have HG2 := Lib.hid hg
          have h8i : decide ((i : Int) < 8) = false := decide_eq_false (by omega)
          clear hg hv
          go_wp2_with fail
          with_reducible refine (must_no _ _).mono ?_
          rintro e w1 ⟨rfl, rfl⟩
          go_wp2_with fail
          simp only [bodyPost]
          refine ⟨trivial, Drawn0.refl _, ?_⟩
          rw [HG2.out]
      by_cases hB : 97 ≤ c ∧ c ≤ 102
      · obtain ⟨h1, h2⟩ := hB
        have hh0 : 48 ≤ c := by omega
        have hh1 : decide (c ≤ 57) = false := decide_eq_false (by omega)
        have hn36 := pow_le hn hi8
        have hsh : wrap64 ((n : Int) * 16) = (n : Int) * 16 := w64 _ (by omega) (by omega)
        have hsi : IntKind.i64.wrap ((n : Int) * 16) = (n : Int) * 16 := w64i _ (by omega) (by omega)
        have hor := or_hex n (c - 97 + 10) (by omega) (by omega) (by omega)
        have hv : hexV c = c - 97 + 10 := by unfold hexV; rw [if_neg hA, if_pos ⟨h1, h2⟩]; omega
        have hg := HG.out
        rw [HD.out, lenG, if_neg (by rw [hv]; omega)] at hg
        by_cases h8 : i < 8
        · rw [if_neg (by omega), hv] at hg
          have HG2 := Aside0.mk hg
          have h8i : (i : Int) < 8 := by omega
          clear hg hv
          have hps := pow_step hn (show 0 ≤ c - 97 + 10 by omega) (by omega)
          have HPS := Lib.hid hps
          clear hps
          go_wp2_with fail
          with_reducible refine (must_yes _ _).mono ?_
          rintro e w1 ⟨rfl, rfl⟩
          go_wp2_with fail
          go_roundw
          case rel => exact ⟨n * 16 + (c - 97 + 10).toNat, i + 1, by simp only [Value.int.injEq, true_and]; omega, by go_num, by omega, by omega, HPS.out, trivial, HG2⟩
          case measure => simp [intOf]; omega
        · rw [if_pos (by omega)] at hg
          have HG2 := Lib.hid hg
          have h8i : decide ((i : Int) < 8) = false := decide_eq_false (by omega)
          clear hg hv
          go_wp2_with fail
          with_reducible refine (must_no _ _).mono ?_
          rintro e w1 ⟨rfl, rfl⟩
          go_wp2_with fail
          simp only [bodyPost]
          refine ⟨trivial, Drawn0.refl _, ?_⟩
          rw [HG2.out]
      by_cases hC : 65 ≤ c ∧ c ≤ 70
      · obtain ⟨h1, h2⟩ := hC
        have hh0 : 48 ≤ c := by omega
        have hh1 : decide (c ≤ 57) = false := decide_eq_false (by omega)
        have hh2 : c < 97 := by omega
        have hn36 := pow_le hn hi8
        have hsh : wrap64 ((n : Int) * 16) = (n : Int) * 16 := w64 _ (by omega) (by omega)
        have hsi : IntKind.i64.wrap ((n : Int) * 16) = (n : Int) * 16 := w64i _ (by omega) (by omega)
        have hor := or_hex n (c - 65 + 10) (by omega) (by omega) (by omega)
        have hv : hexV c = c - 65 + 10 := by unfold hexV; rw [if_neg hA, if_neg hB, if_pos ⟨h1, h2⟩]; omega
        have hg := HG.out
        rw [HD.out, lenG, if_neg (by rw [hv]; omega)] at hg
        by_cases h8 : i < 8
        · rw [if_neg (by omega), hv] at hg
          have HG2 := Aside0.mk hg
          have h8i : (i : Int) < 8 := by omega
          clear hg hv
          have hps := pow_step hn (show 0 ≤ c - 65 + 10 by omega) (by omega)
          have HPS := Lib.hid hps
          clear hps
          go_wp2_with fail
          with_reducible refine (must_yes _ _).mono ?_
          rintro e w1 ⟨rfl, rfl⟩
          go_wp2_with fail
          go_roundw
          case rel => exact ⟨n * 16 + (c - 65 + 10).toNat, i + 1, by simp only [Value.int.injEq, true_and]; omega, by go_num, by omega, by omega, HPS.out, trivial, HG2⟩
          case measure => simp [intOf]; omega
        · rw [if_pos (by omega)] at hg
          have HG2 := Lib.hid hg
          have h8i : decide ((i : Int) < 8) = false := decide_eq_false (by omega)
          clear hg hv
          go_wp2_with fail
          with_reducible refine (must_no _ _).mono ?_
          rintro e w1 ⟨rfl, rfl⟩
          go_wp2_with fail
          simp only [bodyPost]
          refine ⟨trivial, Drawn0.refl _, ?_⟩
          rw [HG2.out]
      have hv : hexV c = -1 := by unfold hexV; rw [if_neg hA, if_neg hB, if_neg hC]
      have hg := HG.out
      rw [HD.out, lenG, if_pos (by rw [hv]; decide)] at hg
      have HG2 := Lib.hid hg
      clear hg hv HG
      have hk : c < 48 ∨ (57 < c ∧ c < 65) ∨ (70 < c ∧ c < 97) ∨ 102 < c := by omega
      rcases hk with h1 | ⟨h1, h2⟩ | ⟨h1, h2⟩ | h1
      · have f1 : decide (48 ≤ c) = false := decide_eq_false (by omega)
        have f2 : decide (97 ≤ c) = false := decide_eq_false (by omega)
        have f3 : decide (65 ≤ c) = false := decide_eq_false (by omega)
        by_cases h0 : i = 0
        · subst h0
          have hq : ¬ (0 < 0 ∧ c = 59 ∧ textL ((bytesOf s).drop (0 + 1)) = true) := fun h => by have := h.1; omega
          go_wp2_with fail
          with_reducible refine (must_no _ _).mono ?_
          rintro e w1 ⟨rfl, rfl⟩
          go_wp2_with fail
          simp only [bodyPost]
          refine ⟨trivial, Drawn0.refl _, ?_⟩
          rw [HG2.out, if_neg hq]
        · have hi0 : 0 < (i : Int) := by omega
          obtain ⟨z, hz⟩ : ∃ z : Int, (s.size : Int) = z := ⟨_, rfl⟩
          have hie : ((i : Int) == z) = false := by simp only [beq_eq_false_iff_ne]; omega
          have hjz : (i : Int) < z := by omega
          have h59 : c ≠ 59 := by omega
          have hq : ¬ (0 < i ∧ c = 59 ∧ textL ((bytesOf s).drop (i + 1)) = true) := fun h => h59 h.2.1
          have hce : (c == 59) = false := by simpa using h59
          go_wp2_with fail
          with_reducible refine (must_no _ _).mono ?_
          rintro e w1 ⟨rfl, rfl⟩
          go_wp2_with fail
          simp only [bodyPost]
          refine ⟨trivial, Drawn0.refl _, ?_⟩
          rw [HG2.out, if_neg hq]
      · have f1 : 48 ≤ c := by omega
        have f4 : decide (c ≤ 57) = false := decide_eq_false (by omega)
        have f2 : decide (97 ≤ c) = false := decide_eq_false (by omega)
        have f3 : decide (65 ≤ c) = false := decide_eq_false (by omega)
        by_cases h0 : i = 0
        · subst h0
          have hq : ¬ (0 < 0 ∧ c = 59 ∧ textL ((bytesOf s).drop (0 + 1)) = true) := fun h => by have := h.1; omega
          go_wp2_with fail
          with_reducible refine (must_no _ _).mono ?_
          rintro e w1 ⟨rfl, rfl⟩
          go_wp2_with fail
          simp only [bodyPost]
          refine ⟨trivial, Drawn0.refl _, ?_⟩
          rw [HG2.out, if_neg hq]
        · have hi0 : 0 < (i : Int) := by omega
          obtain ⟨z, hz⟩ : ∃ z : Int, (s.size : Int) = z := ⟨_, rfl⟩
          have hie : ((i : Int) == z) = false := by simp only [beq_eq_false_iff_ne]; omega
          have hjz : (i : Int) < z := by omega
          by_cases h59 : c = 59
          · have hce : (c == 59) = true := by simpa using h59
            have hw1 : wrap64 ((i : Int) + 1) = (i : Int) + 1 := w64 _ (by omega) (by omega)
            have hw2 : IntKind.i64.wrap ((i : Int) + 1) = (i : Int) + 1 := w64i _ (by omega) (by omega)
            have hsx : (i : Int) + 1 ≤ z := by omega
            have hsx0 : (0 : Int) ≤ (i : Int) + 1 := by omega
            obtain ⟨k, hk⟩ := (bytesOf_ev (s.extract (i + 1) s.size) (by rw [ByteArray.size_extract]; omega)).rounds
            rw [bytes_extract, List.take_of_length_le (by rw [← HSZ.out]; exact Nat.le_refl _)] at hk
            have HK := Lib.hid hk
            clear hk
            go_wp2_with fail
            with_reducible refine (chunk_bytesOf.calls k _ _ _ HK.out).mono ?_
            rintro e w1 ⟨rfl, hd⟩
            cases hT : textL ((bytesOf s).drop (i + 1)) with
            | true =>
              have hq : 0 < i ∧ c = 59 ∧ textL ((bytesOf s).drop (i + 1)) = true := ⟨by omega, h59, hT⟩
              go_wp2_with fail
              with_reducible refine (must_yes _ _).mono ?_
              rintro e w2 ⟨rfl, rfl⟩
              go_wp2_with fail
              refine bodyPost_ret (results_tmp rfl _ _ _) rfl ?_
              refine ⟨hd, ?_⟩
              rw [HG2.out, if_pos hq]
              rfl
            | false =>
              have hq : ¬ (0 < i ∧ c = 59 ∧ textL ((bytesOf s).drop (i + 1)) = true) := by rw [hT]; simp
              go_wp2_with fail
              with_reducible refine (must_no _ _).mono ?_
              rintro e w2 ⟨rfl, rfl⟩
              go_wp2_with fail
              simp only [bodyPost]
              refine ⟨trivial, hd, ?_⟩
              rw [HG2.out, if_neg hq]
          · have hq : ¬ (0 < i ∧ c = 59 ∧ textL ((bytesOf s).drop (i + 1)) = true) := fun h => h59 h.2.1
            have hce : (c == 59) = false := by simpa using h59
            go_wp2_with fail
            with_reducible refine (must_no _ _).mono ?_
            rintro e w1 ⟨rfl, rfl⟩
            go_wp2_with fail
            simp only [bodyPost]
            refine ⟨trivial, Drawn0.refl _, ?_⟩
            rw [HG2.out, if_neg hq]
      · have f1 : 48 ≤ c := by omega
        have f4 : decide (c ≤ 57) = false := decide_eq_false (by omega)
        have f2 : decide (97 ≤ c) = false := decide_eq_false (by omega)
        have f3 : 65 ≤ c := by omega
        have f5 : decide (c ≤ 70) = false := decide_eq_false (by omega)
        by_cases h0 : i = 0
        · subst h0
          have hq : ¬ (0 < 0 ∧ c = 59 ∧ textL ((bytesOf s).drop (0 + 1)) = true) := fun h => by have := h.1; omega
          go_wp2_with fail
          with_reducible refine (must_no _ _).mono ?_
          rintro e w1 ⟨rfl, rfl⟩
          go_wp2_with fail
          simp only [bodyPost]
          refine ⟨trivial, Drawn0.refl _, ?_⟩
          rw [HG2.out, if_neg hq]
        · have hi0 : 0 < (i : Int) := by omega
          obtain ⟨z, hz⟩ : ∃ z : Int, (s.size : Int) = z := ⟨_, rfl⟩
          have hie : ((i : Int) == z) = false := by simp only [beq_eq_false_iff_ne]; omega
          have hjz : (i : Int) < z := by omega
          have h59 : c ≠ 59 := by omega
          have hq : ¬ (0 < i ∧ c = 59 ∧ textL ((bytesOf s).drop (i + 1)) = true) := fun h => h59 h.2.1
          have hce : (c == 59) = false := by simpa using h59
          go_wp2_with fail
          with_reducible refine (must_no _ _).mono ?_
          rintro e w1 ⟨rfl, rfl⟩
          go_wp2_with fail
          simp only [bodyPost]
          refine ⟨trivial, Drawn0.refl _, ?_⟩
          rw [HG2.out, if_neg hq]
      · have f1 : 48 ≤ c := by omega
        have f4 : decide (c ≤ 57) = false := decide_eq_false (by omega)
        have f2 : 97 ≤ c := by omega
        have f6 : decide (c ≤ 102) = false := decide_eq_false (by omega)
        have f3 : 65 ≤ c := by omega
        have f5 : decide (c ≤ 70) = false := decide_eq_false (by omega)
        by_cases h0 : i = 0
        · subst h0
          have hq : ¬ (0 < 0 ∧ c = 59 ∧ textL ((bytesOf s).drop (0 + 1)) = true) := fun h => by have := h.1; omega
          go_wp2_with fail
          with_reducible refine (must_no _ _).mono ?_
          rintro e w1 ⟨rfl, rfl⟩
          go_wp2_with fail
          simp only [bodyPost]
          refine ⟨trivial, Drawn0.refl _, ?_⟩
          rw [HG2.out, if_neg hq]
        · have hi0 : 0 < (i : Int) := by omega
          obtain ⟨z, hz⟩ : ∃ z : Int, (s.size : Int) = z := ⟨_, rfl⟩
          have hie : ((i : Int) == z) = false := by simp only [beq_eq_false_iff_ne]; omega
          have hjz : (i : Int) < z := by omega
          have h59 : c ≠ 59 := by omega
          have hq : ¬ (0 < i ∧ c = 59 ∧ textL ((bytesOf s).drop (i + 1)) = true) := fun h => h59 h.2.1
          have hce : (c == 59) = false := by simpa using h59
          go_wp2_with fail
          with_reducible refine (must_no _ _).mono ?_
          rintro e w1 ⟨rfl, rfl⟩
          go_wp2_with fail
          simp only [bodyPost]
          refine ⟨trivial, Drawn0.refl _, ?_⟩
          rw [HG2.out, if_neg hq]
    · have hin : i = s.size := by omega
      have hg := HG.out
      rw [List.drop_eq_nil_of_le (by rw [← HSZ.out]; omega), lenG] at hg
      have HG2 := Lib.hid hg
      clear hg HG
      have hii : (i : Int) = (s.size : Int) := by omega
      by_cases h0 : i = 0
      · subst h0
        have hie : s.size = 0 := by omega
        clear hii hin
        have hq : ¬ 0 < 0 := by omega
        go_wp2_with fail
        with_reducible refine (must_no _ _).mono ?_
        rintro e w1 ⟨rfl, rfl⟩
        go_wp2_with fail
        simp only [bodyPost]
        refine ⟨trivial, Drawn0.refl _, ?_⟩
        rw [HG2.out, if_neg hq]
      · have hi0 : 0 < (i : Int) := by omega
        have hie : ((i : Int) == (s.size : Int)) = true := by simp only [beq_iff_eq]; omega
        have hil : decide ((i : Int) < (s.size : Int)) = false := decide_eq_false (by omega)
        clear hii hin
        have hq : 0 < i := by omega
        go_wp2_with fail
        with_reducible refine (must_yes _ _).mono ?_
        rintro e w2 ⟨rfl, rfl⟩
        go_wp2_with fail
        refine bodyPost_ret (results_tmp rfl _ _ _) rfl ?_
        refine ⟨Drawn0.refl _, ?_⟩
        rw [HG2.out, if_pos hq]
        rfl
end Go.Proofs.YtdhajdgcgjbdnaaDoor.Chunk

namespace Go.Proofs.YtdhajdgcgjbdnaaDoor.Chunk
open Go.RowKit Go.Proofs.YtdhajdgcgjbdnaaDoor.G Go.Proofs.YtdhajdgcgjbdnaaDoorW.PrintWords Go.Proofs.YtdhajdgcgjbdnaaDoorW.PrintMore Go.Proofs.YtdhajdgcgjbdnaaDoor.Foot Go.Proofs.YtdhajdgcgjbdnaaDoor.Plain

/-- A reader whose bytes lie outside its own block. -/
structure Rd (w : World) (p : Nat) (A : Option Addr) (c : Nat) (xs : List Int) (i : Nat) : Prop where
  blk : w.heap[p]? = some (RO A xs.length c i)
  cs : CS (Kd.int .u8) (fun k => k = p) w A xs.length xs
  cap : xs.length ≤ c
  len : xs.length ≤ 1000000000
  at_ : i ≤ xs.length
  rng : ∀ c ∈ xs, 0 ≤ c ∧ c ≤ 255
theorem Rd.step {w w' : World} {p : Nat} {A : Option Addr} {c : Nat} {xs : List Int} {i j : Nat} (h : Rd w p A c xs i) (hk : Keeps (fun k => k = p) w w') (hb : w'.heap[p]? = some (RO A xs.length c j)) (hj : j ≤ xs.length) : Rd w' p A c xs j :=
  ⟨hb, h.cs.step hk (fun _ h => .inl h), h.cap, h.len, hj, h.rng⟩
theorem Rd.below {w w' : World} {p : Nat} {A : Option Addr} {c : Nat} {xs : List Int} {i : Nat} (h : Rd w p A c xs i) (hb : Below w.heap.size w w') : Rd w' p A c xs i :=
  h.step (.of_below hb) ((hb.block p (blk_lt h.blk)).trans h.blk) h.at_
def endK (l : List Int) : Nat → Got (List Int)
  | 0 => endG l
  | 1 => crG l
  | _ => .ok l
def EndPost (p : Nat) (A : Option Addr) (c : Nat) (xs : List Int) (i : Nat) (w : World) (e : Ending) (w' : World) : Prop :=
  Keeps (fun k => k = p) w w' ∧ match endG (xs.drop i) with
    | .ok r => e = .returned (.tuple #[]) ∧ w'.heap[p]? = some (RO A xs.length c (xs.length - r.length))
    | .bad n => e = .panicked [stop n]
def crlf (k : Nat) : Int := if k = 0 then 13 else 10
theorem endK_step (xs : List Int) (j k : Nat) (hk : k < 2) (h : j < xs.length) : endK (xs.drop j) k = if rd xs (j : Int) = crlf k then endK (xs.drop (j + 1)) (k + 1) else .bad 94 := by
  rw [rd_drop xs j h]
  rcases (show k = 0 ∨ k = 1 by omega) with rfl | rfl <;> rfl
theorem endK_nil (k : Nat) (hk : k < 2) : endK [] k = .bad 92 := by
  rcases (show k = 0 ∨ k = 1 by omega) with rfl | rfl <;> rfl
set_option maxHeartbeats 4000000 in
set_option maxRecDepth 100000 in
theorem end_calls (p : Nat) (A : Option Addr) (c : Nat) (xs : List Int) (i : Nat) (w : World) (h : Rd w p A c xs i) :
    Calls Tryd.prog 36 #[.pointer (some ⟨p, 0, none⟩)] w (EndPost p A c xs i w) := by
  have H := Aside0.mk h
  have hpl := blk_lt h.blk
  have HL := Lib.hid h.len
  clear h
  have hcv := Lib.run_convert_bytes_const (P := Tryd.prog) w 22 5 #[.int .u8 13, .int .u8 10] 2 2 Tryd.underlying22 Tryd.underlying5
  go_enter Tryd.func36, Tryd.ntmps36
  go_wp2_with fail
  have HG0 := Aside0.mk (blk_new w (.cells #[.int .u8 13, .int .u8 10] 5 (2, 3)))
  have HR0 := Aside0.mk (H.out.below (below_alloc (Below.refl _ _) (.cells #[.int .u8 13, .int .u8 10] 5 (2, 3))))
  have HK0 := Aside0.mk ((Keeps.refl (fun k => k = p) w).alloc (.cells #[.int .u8 13, .int .u8 10] 5 (2, 3)))
  generalize w.alloc (.cells #[.int .u8 13, .int .u8 10] 5 (2, 3)) = w1 at HG0 HR0 HK0 ⊢
  obtain ⟨g, hg⟩ : ∃ g, w.heap.size = g := ⟨_, rfl⟩
  rw [hg] at HG0 ⊢
  have hgp : g ≠ p := by omega
  have HGP := Lib.hid hgp
  clear hpl hg hgp hcv
  go_loopw [7] (fun v7 wr => ∃ k : Nat, v7 = .int .i64 (k : Int) ∧ k ≤ 2 ∧ Aside0 (wr.heap[g]? = some (.cells #[.int .u8 13, .int .u8 10] 5 (2, 3))) ∧ Aside0 (Rd wr p A c xs (i + k)) ∧ Aside0 (Keeps (fun k => k = p) w wr) ∧ Aside0 (endG (xs.drop i) = endK (xs.drop (i + k)) k)) (fun v7 _ => 2 - (intOf v7).toNat)
  case atStart => exact ⟨0, rfl, by omega, HG0, HR0, HK0, ⟨rfl⟩⟩
  case round =>
    clear HG0 HR0 HK0 H w1
    obtain ⟨k, rfl, hk, HG, HR, HK, HE⟩ := hrel
    by_cases hlt : k < 2
    · obtain ⟨j, hj⟩ : ∃ j, i + k = j := ⟨_, rfl⟩
      rw [hj] at HR HE
      have hgc : wr.cell? ⟨g, k, none⟩ = some (.int .u8 (crlf k)) := by
        rw [cell_of_row _ _ _ _ _ _ HG.out]
        rcases (show k = 0 ∨ k = 1 by omega) with rfl | rfl <;> rfl
      obtain ⟨d, hd⟩ : ∃ d, crlf k = d := ⟨_, rfl⟩
      have HD := Lib.hid hd
      rw [hd] at hgc
      clear hd
      have hki : (k : Int) < 2 := by omega
      have hp0 : wr.cell? ⟨p, 0, none⟩ = some (.slice A xs.length c) := blk_cell HR.out.blk 0
      have hp1 : wr.cell? ⟨p, 1, none⟩ = some (.int .i64 (j : Int)) := blk_cell HR.out.blk 1
      by_cases hjl : j < xs.length
      · have hj0 : (0 : Int) ≤ (j : Int) := by omega
        have hj1 : (j : Int) < (xs.length : Int) := by omega
        obtain ⟨ad, hA, hcell⟩ := Kd.at_int HR.out.cs.now (j : Int) hj0 hj1
        rw [Int.toNat_natCast] at hcell
        subst hA
        have he := endK_step xs j k hlt hjl
        rw [HD.out] at he
        go_wp2_with fail
        go_still_tail 10, (by kernel_rfl)
        change wpList _ _ _ _ _ wr.drew
        have HG1 := Aside0.mk (show wr.drew.heap[g]? = _ from HG.out)
        have HR1 := Aside0.mk (HR.out.below (below_drew (Below.refl _ _)))
        have HK1 := Aside0.mk HK.out.drew
        have hp0 : wr.drew.cell? ⟨p, 0, none⟩ = some (.slice (some ad) xs.length c) := hp0
        have hp1 : wr.drew.cell? ⟨p, 1, none⟩ = some (.int .i64 (j : Int)) := hp1
        have hcell : wr.drew.cell? (ad.add j) = some (.int .u8 (rd xs (j : Int))) := hcell
        generalize wr.drew = w2 at HG1 HR1 HK1 hp0 hp1 hcell ⊢
        clear HG HR HK
        go_wp2_with fail
        with_reducible refine (must_yes _ _).mono ?_
        rintro e w3 ⟨rfl, rfl⟩
        by_cases hx : rd xs (j : Int) = d
        · rw [if_pos hx] at he
          rw [hx] at hcell
          have HE1 := Aside0.mk (HE.out.trans he)
          clear he hx HE
          go_wp2_with fail
          go_still_tail 12, (by kernel_rfl)
          change wpList _ _ _ _ _ w3.drew
          have HG2 := Aside0.mk (show w3.drew.heap[g]? = _ from HG1.out)
          have HR2 := Aside0.mk (HR1.out.below (below_drew (Below.refl _ _)))
          have HK2 := Aside0.mk HK1.out.drew
          have hp1 : w3.drew.cell? ⟨p, 1, none⟩ = some (.int .i64 (j : Int)) := hp1
          have hz1 : w3.drew.frozen? ⟨p, 1, none⟩ = false := blk_frozen HR2.out.blk 1
          generalize w3.drew = w4 at HG2 HR2 HK2 hp1 hz1 ⊢
          clear hp0 hcell HG1 HR1 HK1
          have hjs : j + 1 ≤ xs.length := by omega
          have hw1 : wrap64 ((j : Int) + 1) = (j : Int) + 1 := w64 _ (by omega) (by have := HL.out; omega)
          have hw2 : IntKind.i64.wrap ((j : Int) + 1) = (j : Int) + 1 := w64i _ (by omega) (by have := HL.out; omega)
          go_wp2_with fail
          with_reducible refine (must_yes _ _).mono ?_
          rintro e w5 ⟨rfl, rfl⟩
          go_wp2_with fail
          have hbp := blk_put HR2.out.blk 1 (.int .i64 ((j : Int) + 1)) rfl
          have hks := (Keeps.refl (fun k => k = p) w5).setCell (p := ⟨p, 1, none⟩) (.inl rfl) (.int .i64 ((j : Int) + 1))
          have HR3 := Aside0.mk (HR2.out.step hks hbp hjs)
          have HK3 := Aside0.mk (HK2.out.setCell (p := ⟨p, 1, none⟩) (.inl rfl) (.int .i64 ((j : Int) + 1)))
          have HG3 := Aside0.mk ((hks.block g (blk_lt HG2.out) HGP.out).trans HG2.out)
          go_roundw
          case rel => exact ⟨k + 1, by go_num, by omega, HG3, by rw [← Nat.add_assoc, hj]; exact HR3, HK3, by rw [← Nat.add_assoc, hj]; exact HE1⟩
          case measure => simp [intOf]; omega
        · rw [if_neg hx] at he
          have hxb : (rd xs (j : Int) == d) = false := by simpa using hx
          go_wp2_with fail
          go_still_tail 12, (by kernel_rfl)
          change wpList _ _ _ _ _ w3.drew
          go_wp2_with fail
          with_reducible refine (must_no _ _).mono ?_
          rintro e w5 ⟨rfl, rfl⟩
          go_wp2_with fail
          simp only [bodyPost]
          refine ⟨trivial, HK1.out.drew, ?_⟩
          rw [HE.out, he]
      · have he : endK (xs.drop j) k = .bad 92 := by rw [show xs.drop j = [] from List.drop_eq_nil_of_le (by omega)]; exact endK_nil k hlt
        have hjl2 : decide ((j : Int) < (xs.length : Int)) = false := decide_eq_false (by omega)
        go_wp2_with fail
        go_still_tail 10, (by kernel_rfl)
        change wpList _ _ _ _ _ wr.drew
        go_wp2_with fail
        with_reducible refine (must_no _ _).mono ?_
        rintro e w5 ⟨rfl, rfl⟩
        go_wp2_with fail
        simp only [bodyPost]
        refine ⟨trivial, HK.out.drew, ?_⟩
        rw [HE.out, he]
    · have hk2 : k = 2 := by omega
      subst hk2
      have HR2 := Aside0.mk HR.out
      have HE2 := Lib.hid HE.out
      clear HR HE
      go_wp2_with fail
      refine bodyPost_ret (results_none rfl _ _ _) rfl ?_
      refine ⟨HK.out, ?_⟩
      rw [HE2.out, show endK (xs.drop (i + 2)) 2 = .ok (xs.drop (i + 2)) from rfl]
      have hat := HR2.out.at_
      refine ⟨rfl, ?_⟩
      rw [List.length_drop, show xs.length - (xs.length - (i + 2)) = i + 2 by omega]
      exact HR2.out.blk
end Go.Proofs.YtdhajdgcgjbdnaaDoor.Chunk

namespace Go.Proofs.YtdhajdgcgjbdnaaDoor.Chunk
open Go.RowKit Go.Proofs.YtdhajdgcgjbdnaaDoor.G Go.Proofs.YtdhajdgcgjbdnaaDoorW.PrintWords Go.Proofs.YtdhajdgcgjbdnaaDoorW.PrintMore Go.Proofs.YtdhajdgcgjbdnaaDoor.Foot Go.Proofs.YtdhajdgcgjbdnaaDoor.Plain

/-- Is a line a field? -/
def fieldL (s : List Int) : Bool := (parseL [strOfNums s]).2 == 0
theorem field_no (s : List Int) (h : fieldL s = false) : (parseL [strOfNums s]).2 = 90 := by
  unfold fieldL at h
  unfold parseL at h ⊢
  rw [if_neg (by simp)] at h ⊢
  unfold parseA at h ⊢
  cases e : lineP (strOfNums s) with
  | none => rfl
  | some f =>
    rw [e] at h
    exact absurd h (by simp [parseA])
def TrailPost (p : Nat) (A : Option Addr) (c : Nat) (xs : List Int) (i : Nat) (w : World) (e : Ending) (w' : World) : Prop :=
  Keeps (fun k => k = p) w w' ∧ match trailG fieldL (xs.length + 1) (xs.drop i) 0 with
    | .ok r => e = .returned (.tuple #[]) ∧ w'.heap[p]? = some (RO A xs.length c (xs.length - r.length))
    | .bad n => e = .panicked [stop n]
theorem str_none (s : List Int) (h : s = []) : strOfNums s = ⟨#[]⟩ := by subst h; rfl
theorem str_some (s : List Int) (h : s ≠ []) (hr : ∀ c ∈ s, 0 ≤ c ∧ c ≤ 255) : ((strOfNums s).toList == ([] : List UInt8)) = false := by
  rw [beq_eq_false_iff_ne]
  intro e
  have := (emp_iff _).1 e
  rw [bytes_of_nums hr] at this
  exact h this
theorem str_size (s : List Int) (hr : ∀ c ∈ s, 0 ≤ c ∧ c ≤ 255) : (strOfNums s).size = s.length := by rw [size_bytes, bytes_of_nums hr]
theorem drop_rng {xs : List Int} (h : ∀ c ∈ xs, 0 ≤ c ∧ c ≤ 255) (i : Nat) : ∀ c ∈ xs.drop i, 0 ≤ c ∧ c ≤ 255 := fun c hc => h c (List.mem_of_mem_drop hc)
theorem line_rng {l s r : List Int} (h : ∀ c ∈ l, 0 ≤ c ∧ c ≤ 255) (hl : lineG l 0 = .ok (s, r)) : ∀ c ∈ s, 0 ≤ c ∧ c ≤ 255 := by
  obtain ⟨_, _, h3⟩ := lineG_length _ _ _ _ hl
  intro c hc
  rw [h3] at hc
  exact h c (List.mem_of_mem_take hc)
theorem Rd.line {w : World} {p : Nat} {A : Option Addr} {c : Nat} {xs : List Int} {i : Nat} (h : Rd w p A c xs i) : Calls Tryd.prog 33 #[.pointer (some ⟨p, 0, none⟩)] w (LinePost p A c xs i w) :=
  line_calls p A c xs i w h.blk h.cs.now h.cap h.len h.at_
set_option maxHeartbeats 4000000 in
set_option maxRecDepth 100000 in
theorem trailers_calls (p : Nat) (A : Option Addr) (c : Nat) (xs : List Int) (i : Nat) (w : World) (h : Rd w p A c xs i) :
    Calls Tryd.prog 34 #[.pointer (some ⟨p, 0, none⟩)] w (TrailPost p A c xs i w) := by
  have H := Aside0.mk h
  clear h
  go_enter Tryd.func34, Tryd.ntmps34
  go_wp2_with fail
  go_loopw [2] (fun v2 wr => ∃ k j f : Nat, v2 = .int .i64 (k : Int) ∧ k ≤ 100 ∧ xs.length - j < f ∧ Aside0 (Rd wr p A c xs j) ∧ Aside0 (Keeps (fun k => k = p) w wr) ∧ Aside0 (trailG fieldL (xs.length + 1) (xs.drop i) 0 = trailG fieldL f (xs.drop j) k)) (fun v2 _ => 101 - (intOf v2).toNat)
  case atStart => exact ⟨0, i, xs.length + 1, rfl, by omega, by omega, H, ⟨Keeps.refl _ _⟩, ⟨rfl⟩⟩
  case round =>
    clear H
    obtain ⟨k, j, f, rfl, hk, hf, HR, HK, HE⟩ := hrel
    obtain ⟨f, rfl⟩ : ∃ f', f = f' + 1 := ⟨f - 1, by omega⟩
    go_wp2_with fail
    with_reducible refine HR.out.line.mono ?_
    rintro e w1 ⟨hk1, hp1⟩
    have HK1 := Aside0.mk (HK.out.trans hk1 (fun _ h => .inl h))
    cases hln : lineG (xs.drop j) 0 with
    | bad n =>
      rw [hln] at hp1
      have HE1 := Lib.hid (show trailG fieldL (xs.length + 1) (xs.drop i) 0 = .bad n by rw [HE.out, trailG, hln])
      subst hp1
      clear hln hk1
      go_wp2_with fail
      simp only [bodyPost]
      refine ⟨trivial, HK1.out, ?_⟩
      rw [HE1.out]
    | ok a =>
      obtain ⟨s, r⟩ := a
      rw [hln] at hp1
      obtain ⟨rfl, hb1⟩ := hp1
      obtain ⟨hl1, hl2, hl3⟩ := lineG_length _ _ _ _ hln
      have hat := HR.out.at_
      rw [List.length_drop] at hl1
      have hrx : r = xs.drop (xs.length - r.length) := by rw [hl2, List.drop_drop]; congr 1; rw [List.length_drop]; omega
      have HR1 := Aside0.mk (HR.out.step hk1 hb1 (by omega))
      have hsr := line_rng (drop_rng HR.out.rng j) hln
      have HE1 := Lib.hid (show trailG fieldL (xs.length + 1) (xs.drop i) 0 = if s = [] then .ok r else if fieldL s = true ∧ k < 100 then trailG fieldL f r (k + 1) else .bad 94 by rw [HE.out, trailG, hln])
      have HB1 := Lib.hid hb1
      by_cases hs : s = []
      · rw [str_none s hs]
        have HE2 := Lib.hid (HE1.out.trans (if_pos hs))
        clear hln hk1 hb1 hl1 hl2 hl3 hrx hsr HE1 hs
        go_wp2_with fail
        refine bodyPost_ret (results_none rfl _ _ _) rfl ?_
        refine ⟨HK1.out, ?_⟩
        rw [HE2.out]
        exact ⟨rfl, HB1.out⟩
      · have hss := str_some s hs hsr
        have hsz := str_size s hsr
        have hsl : s.length ≤ 1000000000 := by have := HR.out.len; omega
        have HE2 := Lib.hid (HE1.out.trans (if_neg hs))
        obtain ⟨q, hq⟩ := (parse_head [strOfNums s] (fun x hx => by
          rw [List.mem_singleton] at hx
          rw [hx, hsz]; omega)).rounds
        have hfl : fieldL s = ((parseL [strOfNums s]).2 == 0) := rfl
        have hfn := field_no s
        obtain ⟨t, ht⟩ : ∃ t, strOfNums s = t := ⟨_, rfl⟩
        rw [ht] at hss hsz hq hfl hfn ⊢
        obtain ⟨⟨fs, en⟩, hpl⟩ : ∃ y, parseL [t] = y := ⟨_, rfl⟩
        rw [hpl] at hq hfl hfn
        have HQ := Lib.hid hq
        have HF := Lib.hid (show (fieldL s = true ↔ en = 0) ∧ (fieldL s = false → en = 90) from ⟨by rw [hfl]; simp, hfn⟩)
        have hrl : r.length ≤ xs.length ∧ xs.length - (xs.length - r.length) < f := by omega
        have HRL := Lib.hid hrl
        have HRX := Lib.hid hrx
        clear hln hk1 hb1 hl1 hl2 hl3 hrx hsr HE1 hs hsz hsl hq hfl hfn hpl hrl ht hf hat HR HK HE
        go_wp2_with fail
        have hcs : Kd.C Kd.string (w1.alloc (.cells #[.string t] 9)) (some ⟨w1.heap.size, 0, none⟩) [t].length [t] :=
          Leaf.C_block Kd.string (fun x => [Value.string x]) (fun _ => rfl) _ w1.heap.size #[.string t] 9 (0, 0) [t] (fun x _ => rfl) (blk_new w1 _) (by simp) (by simp)
        have hc1 : [t].length ≤ 1 := by simp
        have hpc := head_Parse.calls q _ 1 [t] fs en _ hcs hc1 HQ.out
        rw [show [t].length = 1 from rfl] at hpc
        with_reducible refine hpc.mono ?_
        rintro e w2 ⟨v2, rfl, _, hb2⟩
        have HB2 := Aside0.mk ((below_alloc (Below.refl _ w1) (.cells #[.string t] 9)).trans (hb2.mono (by simp)))
        have HR2 := Aside0.mk (HR1.out.below HB2.out)
        have HK2 := Aside0.mk (HK1.out.then_below HB2.out)
        clear hb2 hcs hpc hc1 HB2 HR1 HK1 HB1
        by_cases hq : fieldL s = true ∧ k < 100
        · have he0 := HF.out.1.1 hq.1
          subst he0
          have hk1 : (k : Int) < 100 := by omega
          have HE3 := Aside0.mk (HE2.out.trans (if_pos hq))
          rw [HRX.out] at HE3
          have hkk := hq.2
          clear hq
          go_wp2_with fail
          with_reducible refine (must_yes _ _).mono ?_
          rintro e w5 ⟨rfl, rfl⟩
          go_wp2_with fail
          go_roundw
          case rel => exact ⟨k + 1, xs.length - r.length, f, by go_num, by omega, HRL.out.2, HR2, HK2, HE3⟩
          case measure => simp [intOf]; omega
        · have HE3 := Lib.hid (HE2.out.trans (if_neg hq))
          cases hfs : fieldL s with
          | true =>
            have he0 := HF.out.1.1 hfs
            have hk1 : decide ((k : Int) < 100) = false := decide_eq_false (by rw [hfs] at hq; simp at hq; omega)
            subst he0
            clear hq hfs
            go_wp2_with fail
            with_reducible refine (must_no _ _).mono ?_
            rintro e w5 ⟨rfl, rfl⟩
            go_wp2_with fail
            simp only [bodyPost]
            refine ⟨trivial, HK2.out, ?_⟩
            rw [HE3.out]
          | false =>
            have he0 := HF.out.2 hfs
            subst he0
            clear hq hfs
            go_wp2_with fail
            with_reducible refine (must_no _ _).mono ?_
            rintro e w5 ⟨rfl, rfl⟩
            go_wp2_with fail
            simp only [bodyPost]
            refine ⟨trivial, HK2.out, ?_⟩
            rw [HE3.out]
end Go.Proofs.YtdhajdgcgjbdnaaDoor.Chunk

namespace Go.Proofs.YtdhajdgcgjbdnaaDoor.Chunk
open Go.RowKit Go.Proofs.YtdhajdgcgjbdnaaDoor.G Go.Proofs.YtdhajdgcgjbdnaaDoorW.PrintWords Go.Proofs.YtdhajdgcgjbdnaaDoorW.PrintMore Go.Proofs.YtdhajdgcgjbdnaaDoor.Foot Go.Proofs.YtdhajdgcgjbdnaaDoor.Plain

theorem trail_fuel (P : List Int → Bool) : ∀ (n : Nat) (l : List Int) (f g k : Nat), l.length ≤ n → l.length < f → l.length < g → trailG P f l k = trailG P g l k := by
  intro n
  induction n with
  | zero =>
    intro l f g k hn hf hg
    obtain rfl := List.length_eq_zero_iff.1 (Nat.le_zero.1 hn)
    obtain ⟨f, rfl⟩ : ∃ f', f = f' + 1 := ⟨f - 1, by omega⟩
    obtain ⟨g, rfl⟩ : ∃ f', g = f' + 1 := ⟨g - 1, by omega⟩
    rw [trailG, trailG]
    rfl
  | succ n ih =>
    intro l f g k hn hf hg
    obtain ⟨f, rfl⟩ : ∃ f', f = f' + 1 := ⟨f - 1, by omega⟩
    obtain ⟨g, rfl⟩ : ∃ f', g = f' + 1 := ⟨g - 1, by omega⟩
    rw [trailG, trailG]
    cases e : lineG l 0 with
    | bad e => rfl
    | ok a =>
      obtain ⟨s, r⟩ := a
      obtain ⟨h1, _, _⟩ := lineG_length _ _ _ _ e
      dsimp only
      rw [ih r f g (k + 1) (by omega) (by omega) (by omega)]
theorem Rd.trailers {w : World} {p : Nat} {A : Option Addr} {c : Nat} {xs : List Int} {i : Nat} (h : Rd w p A c xs i) : Calls Tryd.prog 34 #[.pointer (some ⟨p, 0, none⟩)] w (TrailPost p A c xs i w) := trailers_calls p A c xs i w h
/-- A reader's place, read off the world. -/
def rdAt (w : World) (p : Nat) : Nat := match w.cell? ⟨p, 1, none⟩ with
  | some v => (intOf v).toNat
  | none => 0
theorem Rd.rdAt {w : World} {p : Nat} {A : Option Addr} {c : Nat} {xs : List Int} {i : Nat} (h : Rd w p A c xs i) : rdAt w p = i := by
  unfold Chunk.rdAt
  rw [show w.cell? ⟨p, 1, none⟩ = some (.int .i64 (i : Int)) from blk_cell h.blk 1]
  simp [intOf]
abbrev Rw (w : World) (b : Nat) (v : Value) (o : List Int) : Prop := Kd.R (Kd.int .u8) 5 w b (fun k => b ≤ k) v o
def BodyPost (p : Nat) (A : Option Addr) (c : Nat) (xs : List Int) (i b : Nat) (w : World) (e : Ending) (w' : World) : Prop :=
  Keeps (fun k => k = p) w w' ∧ match bodyG textL fieldL (xs.length + 1) (xs.drop i) [] with
    | .ok (o, r) => ∃ v, e = .returned v ∧ Rw w' b v o ∧ w'.heap[p]? = some (RO A xs.length c (xs.length - r.length))
    | .bad n => e = .panicked [stop n]
set_option maxHeartbeats 4000000 in
set_option maxRecDepth 100000 in
theorem body_calls (p : Nat) (A : Option Addr) (c : Nat) (xs : List Int) (i b : Nat) (w : World) (h : Rd w p A c xs i) (hb : w.heap.size = b) :
    Calls Tryd.prog 22 #[.pointer (some ⟨p, 0, none⟩)] w (BodyPost p A c xs i b w) := by
  have H := Aside0.mk h
  have HL := Lib.hid h.len
  have HCC := Lib.hid h.cap
  have HPL := Lib.hid (blk_lt h.blk)
  rw [hb] at HPL
  clear h
  have HB := Lib.hid hb
  clear hb
  go_enter Tryd.func22, Tryd.ntmps22
  go_wp2_with fail
  go_loopw [3] (fun v3 wr => ∃ (o : List Int) (j f : Nat), o.length ≤ 65536 ∧ xs.length - j < f ∧ Aside0 (Rw wr b v3 o) ∧ Aside0 (Rd wr p A c xs j) ∧ Aside0 (Keeps (fun k => k = p) w wr) ∧ Aside0 (bodyG textL fieldL (xs.length + 1) (xs.drop i) [] = bodyG textL fieldL f (xs.drop j) o)) (fun _ wr => xs.length - rdAt wr p)
  case atStart => exact ⟨[], i, xs.length + 1, by simp, by omega, ⟨Kd.R_nil _ _ _ _ _⟩, H, ⟨Keeps.refl _ _⟩, ⟨rfl⟩⟩
  case round =>
    obtain ⟨o, j, f, ho, hf, HO, HR, HK, HE⟩ := hrel
    obtain ⟨A0, c0, rfl⟩ := Kd.R_slice HO.out
    obtain ⟨f, rfl⟩ : ∃ f', f = f' + 1 := ⟨f - 1, by omega⟩
    have hms : rdAt wr p = j := HR.out.rdAt
    have HMS := Lib.hid hms
    clear hms
    go_wp2_with fail
    with_reducible refine HR.out.line.mono ?_
    rintro e w1 ⟨hk1, hp1⟩
    have HK1 := Aside0.mk (HK.out.trans hk1 (fun _ h => .inl h))
    have HO1 := Aside0.mk (hk1.R HO.out (fun k hk h => by have := HPL.out; omega))
    cases hln : lineG (xs.drop j) 0 with
    | bad n =>
      rw [hln] at hp1
      have HE1 := Lib.hid (show bodyG textL fieldL (xs.length + 1) (xs.drop i) [] = .bad n by rw [HE.out, bodyG, hln])
      subst hp1
      clear hln hk1
      go_wp2_with fail
      simp only [bodyPost]
      refine ⟨trivial, HK1.out, ?_⟩
      rw [HE1.out]
    | ok a =>
      obtain ⟨s, r⟩ := a
      rw [hln] at hp1
      obtain ⟨rfl, hb1⟩ := hp1
      obtain ⟨hl1, hl2, hl3⟩ := lineG_length _ _ _ _ hln
      have hat := HR.out.at_
      rw [List.length_drop] at hl1
      have hrx : r = xs.drop (xs.length - r.length) := by rw [hl2, List.drop_drop]; congr 1; rw [List.length_drop]; omega
      have HR1 := Aside0.mk (HR.out.step hk1 hb1 (by omega))
      have hsr := line_rng (drop_rng HR.out.rng j) hln
      have hsz := str_size s hsr
      have hbs := bytes_of_nums hsr
      have hrl : r.length + 2 ≤ xs.length - j := by omega
      have HE1 := Lib.hid (show bodyG textL fieldL (xs.length + 1) (xs.drop i) [] = match lenG textL s 0 0 with
        | none => .bad 94
        | some n => if n = 0 then (match trailG fieldL (r.length + 1) r 0 with
            | .bad e => .bad e
            | .ok r' => .ok (o, r'))
          else if 65536 < n + o.length then .bad 93 else if r.length < n then .bad 92 else match endG (r.drop n) with
            | .bad e => .bad e
            | .ok r' => bodyG textL fieldL f r' (o ++ r.take n) by rw [HE.out, bodyG, hln]; rfl)
      obtain ⟨q, hq⟩ : ∃ q, xs.length - r.length = q := ⟨_, rfl⟩
      have hrq : r.length = xs.length - q := by omega
      have hqx : q ≤ xs.length ∧ j < q := by omega
      have hsl : (strOfNums s).size ≤ 1000000000 := by have := HL.out; omega
      rw [hq] at hrx HR1
      rw [hrx] at HE1
      rw [List.length_drop] at HE1
      have HQ := Lib.hid hqx
      clear hln hk1 hb1 hl1 hl2 hl3 hrx hsr HR HK HE hat hrl hq hrq hqx HO
      obtain ⟨t, ht⟩ : ∃ t, strOfNums s = t := ⟨_, rfl⟩
      rw [ht] at hsl hbs ⊢
      go_wp2_with fail
      with_reducible refine (length_calls t _ hsl).mono ?_
      rintro e w2 ⟨hd, hpost⟩
      rw [hbs] at hpost
      have HR2 := Aside0.mk (HR1.out.below hd.below)
      have HK2 := Aside0.mk (HK1.out.drawn hd)
      have HO2 := Aside0.mk (Kd.R_step HO1.out (fun k _ hl => hd.below.block k hl))
      clear hd hsl hbs hsz ht HR1 HK1 HO1
      cases hlg : lenG textL s 0 0 with
      | none =>
        rw [hlg] at hpost HE1
        have HE2 := Lib.hid HE1.out
        subst hpost
        clear hlg HE1
        go_wp2_with fail
        simp only [bodyPost]
        refine ⟨trivial, HK2.out, ?_⟩
        rw [HE2.out]
      | some n =>
        rw [hlg] at hpost HE1
        subst hpost
        have HE2 := Lib.hid HE1.out
        clear hlg HE1
        by_cases hn : n = 0
        · have HE3 := Lib.hid (HE2.out.trans (if_pos hn))
          subst hn
          have htf := trail_fuel fieldL xs.length (xs.drop q) (xs.length - q + 1) (xs.length + 1) 0 (by rw [List.length_drop]; omega) (by rw [List.length_drop]; omega) (by rw [List.length_drop]; omega)
          rw [htf] at HE3
          clear HE2 htf
          go_wp2_with fail
          with_reducible refine HR2.out.trailers.mono ?_
          rintro e w3 ⟨hk3, hp3⟩
          have HK3 := Aside0.mk (HK2.out.trans hk3 (fun _ h => .inl h))
          have HO3 := Aside0.mk (hk3.R HO2.out (fun k hk h => by have := HPL.out; omega))
          cases htg : trailG fieldL (xs.length + 1) (xs.drop q) 0 with
          | bad n =>
            rw [htg] at hp3 HE3
            have HE4 := Lib.hid HE3.out
            subst hp3
            clear htg hk3 HE3
            go_wp2_with fail
            simp only [bodyPost]
            refine ⟨trivial, HK3.out, ?_⟩
            rw [HE4.out]
          | ok r2 =>
            rw [htg] at hp3 HE3
            obtain ⟨rfl, hb3⟩ := hp3
            have HB3 := Lib.hid hb3
            have HE4 := Lib.hid HE3.out
            clear htg hk3 HE3 hb3
            go_wp2_with fail
            refine bodyPost_ret (results_tmp rfl _ _ _) rfl ?_
            refine ⟨HK3.out, ?_⟩
            rw [HE4.out]
            exact ⟨_, rfl, HO3.out, HB3.out⟩
        · have HE3 := Lib.hid (HE2.out.trans (if_neg hn))
          have hol : (o.length : Int) ≤ 65536 := by omega
          obtain ⟨z, hz⟩ : ∃ z : Int, (n : Int) = z := ⟨_, rfl⟩
          have hz1 : 1 ≤ z := by omega
          have hz0 : (z == 0) = false := by simp only [beq_eq_false_iff_ne]; omega
          have hwo : wrap64 (65536 - (o.length : Int)) = 65536 - (o.length : Int) := w64 _ (by omega) (by omega)
          have hwo2 : IntKind.i64.wrap (65536 - (o.length : Int)) = 65536 - (o.length : Int) := w64i _ (by omega) (by omega)
          rw [hz]
          clear HE2 hn
          by_cases hlong : 65536 < n + o.length
          · have HE4 := Lib.hid (HE3.out.trans (if_pos hlong))
            have hcl : decide (z ≤ 65536 - (o.length : Int)) = false := decide_eq_false (by omega)
            clear hz
            go_wp2_with fail
            with_reducible refine (must_no _ _).mono ?_
            rintro e w5 ⟨rfl, rfl⟩
            go_wp2_with fail
            simp only [bodyPost]
            refine ⟨trivial, HK2.out, ?_⟩
            rw [HE4.out]
          · have HE4 := Lib.hid (HE3.out.trans (if_neg hlong))
            have hcl : z ≤ 65536 - (o.length : Int) := by omega
            have hp0 : w2.cell? ⟨p, 0, none⟩ = some (.slice A xs.length c) := blk_cell HR2.out.blk 0
            have hp1 : w2.cell? ⟨p, 1, none⟩ = some (.int .i64 (q : Int)) := blk_cell HR2.out.blk 1
            have hwx : wrap64 ((xs.length : Int) - (q : Int)) = (xs.length : Int) - (q : Int) := w64 _ (by have := HQ.out; omega) (by have := HL.out; omega)
            have hwx2 : IntKind.i64.wrap ((xs.length : Int) - (q : Int)) = (xs.length : Int) - (q : Int) := w64i _ (by have := HQ.out; omega) (by have := HL.out; omega)
            by_cases hsh : (xs.drop q).length < n
            · have HE5 := Lib.hid (HE4.out.trans (if_pos (by rw [List.length_drop] at hsh; exact hsh)))
              rw [List.length_drop] at hsh
              have hcs : decide (z ≤ (xs.length : Int) - (q : Int)) = false := decide_eq_false (by omega)
              clear hz
              go_wp2_with fail
              with_reducible refine (must_yes _ _).mono ?_
              rintro e w5 ⟨rfl, rfl⟩
              go_wp2_with fail
              go_still_tail 12, (by kernel_rfl)
              change wpList _ _ _ _ _ w5.drew
              go_wp2_with fail
              with_reducible refine (must_no _ _).mono ?_
              rintro e w6 ⟨rfl, rfl⟩
              go_wp2_with fail
              simp only [bodyPost]
              refine ⟨trivial, HK2.out.drew, ?_⟩
              rw [HE5.out]
            · have HE5 := Lib.hid (HE4.out.trans (if_neg (by rw [List.length_drop] at hsh; exact hsh)))
              rw [List.length_drop] at hsh
              have hcs : z ≤ (xs.length : Int) - (q : Int) := by omega
              have hqn : q + n ≤ xs.length := by have := HQ.out; omega
              obtain ⟨A', hcut, hcr⟩ := cut_mid A c xs q (q + n) (by omega) hqn HCC.out
              rw [show q + n - q = n by omega, show ((q + n : Nat) : Int) = (q : Int) + z by omega] at hcut
              rw [show q + n - q = n by omega] at hcr
              have hwq : wrap64 ((q : Int) + z) = (q : Int) + z := w64 _ (by omega) (by have := HL.out; omega)
              have hwq2 : IntKind.i64.wrap ((q : Int) + z) = (q : Int) + z := w64i _ (by omega) (by have := HL.out; omega)
              have hqb : (q : Int) + z ≤ (xs.length : Int) := by omega
              have hqb0 : (0 : Int) ≤ (q : Int) + z := by omega
              have hqb1 : (q : Int) ≤ (q : Int) + z := by omega
              have hng : n + o.length ≤ 65536 := by omega
              have HCR := Lib.hid hcr
              have HZ := Lib.hid hz
              have HNG := Lib.hid hng
              have HQN := Lib.hid hqn
              clear hz hcr hng hqn hlong hsh
              go_wp2_with fail
              with_reducible refine (must_yes _ _).mono ?_
              rintro e w5 ⟨rfl, rfl⟩
              go_wp2_with fail
              go_still_tail 12, (by kernel_rfl)
              change wpList _ _ _ _ _ w5.drew
              have HR3 := Aside0.mk (HR2.out.below (below_drew (Below.refl _ _)))
              have HK3 := Aside0.mk HK2.out.drew
              have HO3 := Aside0.mk (Kd.R_step HO2.out (w1 := w5.drew) (fun k _ hl => rfl))
              have hp0 : w5.drew.cell? ⟨p, 0, none⟩ = some (.slice A xs.length c) := hp0
              have hp1 : w5.drew.cell? ⟨p, 1, none⟩ = some (.int .i64 (q : Int)) := hp1
              generalize w5.drew = w6 at HR3 HK3 HO3 hp0 hp1 ⊢
              clear HR2 HK2 HO2
              go_wp2_with fail
              with_reducible refine (must_yes _ _).mono ?_
              rintro e w7 ⟨rfl, rfl⟩
              go_wp2_with fail
              go_still_tail 16, (by kernel_rfl)
              change wpList _ _ _ _ _ w7.drew
              have HR4 := Aside0.mk (HR3.out.below (below_drew (Below.refl _ _)))
              have HK4 := Aside0.mk HK3.out.drew
              have HO4 := Aside0.mk (Kd.R_step HO3.out (w1 := w7.drew) (fun k _ hl => rfl))
              have hp1 : w7.drew.cell? ⟨p, 1, none⟩ = some (.int .i64 (q : Int)) := hp1
              generalize w7.drew = w8 at HR4 HK4 HO4 hp1 ⊢
              clear HR3 HK3 HO3 hp0
              have HC4 := Aside0.mk (HCR.out _ HR4.out.cs.now)
              have hb8 : b ≤ w8.heap.size := by rw [← HB.out]; exact HK4.out.size
              have HB8 := Lib.hid hb8
              have hap : (o.length + n) * 1 ≤ 140737488355328 := by have := HNG.out; omega
              have HAP := Lib.hid hap
              have HHR := Aside0.mk (fun k (hk : (Value.slice A0 o.length c0).ownBlock = some k) => HO4.out.1 k hk)
              clear hb8 hap
              with_reducible refine gate_builtin (b := .append) (xs := #[.tmp 32, .tmp 47]) rfl ?_
              at_builtin
              refine Kd.R_append_row (Value.int .u8) 0 (h1 := fun _ => rfl) (w0 := w8) b rfl (.tmp 32) (.tmp 47) 22 5 (.int .u8 0) 1 rfl Tryd.underlying22 info5 rfl (by decide) (.slice A0 o.length c0) o ((xs.drop q).take n) A' n (c - q) (fun k => b ≤ k) rfl rfl ?bF ?bO ?bC (Below.refl _ _) ?bB ?bL ?_
              case bF => exact fun q hq => Nat.le_trans HB8.out hq
              case bO => exact HO4.out
              case bC => exact HC4.out
              case bB => exact HB8.out
              case bL => exact HAP.out
              intro v' w9 ho9 hb9 hg9 hat9
              obtain ⟨o2, ho2⟩ : ∃ o2, o ++ (xs.drop q).take n = o2 := ⟨_, rfl⟩
              rw [ho2] at ho9 HE5
              have HO2 := Lib.hid ho2
              clear ho2
              obtain ⟨A9, c9, rfl⟩ := Kd.R_slice ho9
              have HO9 := Aside0.mk ho9
              have HK9 := Aside0.mk (HK4.out.grown hg9 (fun k e => .inr (by rw [HB.out]; exact HHR.out k e)))
              have hbp9 := (hb9.block p HPL.out).trans HR4.out.blk
              have HP9 := Aside0.mk hbp9
              have hp1 : w9.cell? ⟨p, 1, none⟩ = some (.int .i64 (q : Int)) := blk_cell hbp9 1
              have hz9 : w9.frozen? ⟨p, 1, none⟩ = false := blk_frozen hbp9 1
              clear ho9 hb9 hg9 hat9 hbp9
              clear HR4 HK4 HO4 HC4 HCR HAP HHR HB8
              go_wp2_with fail
              have hz := HZ.out
              have hqn := HQN.out
              have hb10 := blk_put HP9.out 1 (.int .i64 ((q : Int) + z)) rfl
              rw [show (q : Int) + z = ((q + n : Nat) : Int) by omega] at hb10 ⊢
              have HK10 := Aside0.mk (HK9.out.setCell (p := ⟨p, 1, none⟩) (.inl rfl) (.int .i64 ((q + n : Nat) : Int)))
              have HO10 := Aside0.mk (Kd.R_far HO9.out (p := ⟨p, 1, none⟩) (fun k hk => by have := HPL.out; show k ≠ p; omega) (.int .i64 ((q + n : Nat) : Int)))
              have HR10 : Aside0 (Rd (w9.setCell ⟨p, 1, none⟩ (.int .i64 ((q + n : Nat) : Int))) p A c xs (q + n)) := ⟨⟨hb10, H.out.cs.step HK10.out (fun _ h => .inl h), H.out.cap, H.out.len, hqn, H.out.rng⟩⟩
              clear HK9 HO9 HP9 hb10
              generalize w9.setCell ⟨p, 1, none⟩ (.int .i64 ((q + n : Nat) : Int)) = w10 at HK10 HO10 HR10 ⊢
              with_reducible refine (end_calls p A c xs (q + n) w10 HR10.out).mono ?_
              rintro e w11 ⟨hk11, hp11⟩
              have HK11 := Aside0.mk (HK10.out.trans hk11 (fun _ h => .inl h))
              have HO11 := Aside0.mk (hk11.R HO10.out (fun k hk h => by have := HPL.out; omega))
              have hdd : List.drop n (List.drop q xs) = xs.drop (q + n) := by rw [List.drop_drop]
              rw [hdd] at HE5
              cases hen : endG (xs.drop (q + n)) with
              | bad m =>
                rw [hen] at hp11 HE5
                have HE6 := Lib.hid HE5.out
                subst hp11
                clear hen HE5 hk11
                go_wp2_with fail
                simp only [bodyPost]
                refine ⟨trivial, HK11.out, ?_⟩
                rw [HE6.out]
              | ok r2 =>
                rw [hen] at hp11 HE5
                obtain ⟨rfl, hb11⟩ := hp11
                obtain ⟨h1, h2⟩ := endG_length _ _ hen
                rw [List.length_drop] at h1
                have h3 : q + n + 2 ≤ xs.length := by omega
                have hr2 : r2 = xs.drop (xs.length - r2.length) := by rw [h2, List.drop_drop]; congr 1; rw [List.length_drop]; omega
                have HR11 := Aside0.mk (HR10.out.step hk11 hb11 (by omega))
                have hms2 : rdAt w11 p = xs.length - r2.length := HR11.out.rdAt
                have HE6 := Aside0.mk (HE5.out.trans (show _ = bodyG textL fieldL f r2 o2 from rfl))
                rw [hr2] at HE6
                have hnum : o2.length ≤ 65536 ∧ xs.length - (xs.length - r2.length) < f ∧ xs.length - (xs.length - r2.length) < xs.length - j := by
                  rw [← HO2.out, List.length_append, List.length_take, List.length_drop]
                  have := HNG.out
                  have := HQ.out
                  omega
                have HNUM := Lib.hid hnum
                have HM2 := Lib.hid hms2
                clear hen HE5 hk11 hb11 h1 h2 hr2 hms2 hnum hdd hz hqn
                go_wp2_with fail
                go_roundw
                case rel => exact ⟨_, _, f, HNUM.out.1, HNUM.out.2.1, HO11, HR11, HK11, HE6⟩
                case measure => rw [HM2.out, HMS.out]; exact HNUM.out.2.2
end Go.Proofs.YtdhajdgcgjbdnaaDoor.Chunk

namespace Go.Proofs.YtdhajdgcgjbdnaaDoor.Chunk
open Go.RowKit Go.Proofs.YtdhajdgcgjbdnaaDoor.G Go.Proofs.YtdhajdgcgjbdnaaDoorW.PrintWords Go.Proofs.YtdhajdgcgjbdnaaDoorW.PrintMore Go.Proofs.YtdhajdgcgjbdnaaDoor.Foot
theorem catch_idle (a b c : Addr) (w : World) :
    CallsD Tryd.prog 21 #[.pointer (some a), .pointer (some b), .pointer (some c)] .returning w fun e u' w' => e = .returned (.tuple #[]) ∧ u' = .returning ∧ w' = w := by
  refine callsD_of_wpS Tryd.func21 rfl fun c₀ cs hu => ?_
  apply wpS_seq
  apply wpS_region
  simp [wpOpsS, go_sem, recoverD, hu, Tryd.ntmps21, Exit.thenS]
  apply wpS_seq
  apply wpS_region
  simp [wpOpsS, go_sem, Exit.thenS]
  refine wpS_cond (t := false) (by simp [Act.eval, Array.replicate]) ?_
  simp only [Bool.false_eq_true, if_false]
  refine wpS_of_wp (wp_skip ?_)
  cases c₀
  simp_all [bodyPostS, results, Tryd.results21]
theorem assert_stop (n : Int) (w : World) : (Instr.typeAssert (.iface 44 (.agg #[.int .i64 n])) 20 44 true).run Tryd.prog w = .ok (.tuple #[.agg #[.int .i64 n], .bool true]) w := by kernel_rfl
theorem wp_named {P : Program} {c : Code} {Q : Exit → Act → World → Prop} {a : Act} {w : World} (h : ∀ Q' : Exit → Act → World → Prop, Hid (Q' = Q) → Code.wp P c Q' a w) : Code.wp P c Q a w := h Q (Lib.hid rfl)
set_option maxHeartbeats 4000000 in
set_option maxRecDepth 100000 in
theorem catch_stop (a b c : Nat) (n : Int) (v0 v1 v2 : Value) (w : World) (ha : w.heap[a]? = some (.cells #[v0] 22 (0, 0))) (hb : w.heap[b]? = some (.cells #[v1] 3 (0, 0))) (hc : w.heap[c]? = some (.cells #[v2] 25 (0, 0))) (hab : a ≠ b) (hac : a ≠ c) (hbc : b ≠ c) :
    CallsD Tryd.prog 21 #[.pointer (some ⟨a, 0, none⟩), .pointer (some ⟨b, 0, none⟩), .pointer (some ⟨c, 0, none⟩)] (.panicking [stop n]) w fun e u' w' =>
      e = .returned (.tuple #[]) ∧ u' = .panicking [{ stop n with recovered := true }] ∧ w'.heap[a]? = some (.cells #[.slice none 0 0] 22 (0, 0)) ∧ w'.heap[b]? = some (.cells #[.int .i64 0] 3 (0, 0)) ∧ w'.heap[c]? = some (.cells #[.int .i64 n] 25 (0, 0)) ∧ Keeps (fun k => k = a ∨ k = b ∨ k = c) w w' := by
  have hta := assert_stop n
  refine callsD_of_wpS Tryd.func21 rfl fun c₀ cs hu => ?_
  apply wpS_seq
  apply wpS_region
  simp [wpOpsS, go_sem, recoverD, hu, Tryd.ntmps21, Exit.thenS, stop]
  apply wpS_seq
  apply wpS_region
  simp [wpOpsS, go_sem, Exit.thenS]
  refine wpS_cond (t := true) (by simp [Act.eval, Array.replicate]) ?_
  simp only [if_true]
  apply wpS_seq
  apply wpS_region
  simp [wpOpsS, go_sem, Exit.thenS, hta]
  apply wpS_seq
  apply wpS_seq
  apply wpS_region
  simp [wpOpsS, go_sem, Exit.thenS]
  refine wpS_cond (t := false) (by simp [Act.eval, Array.replicate]) ?_
  simp only [Bool.false_eq_true, if_false]
  refine wpS_of_wp (wp_skip ?_)
  simp only [Exit.thenS]
  refine wpS_of_wp ?_
  refine wp_named fun Q' HQ => ?_
  obtain ⟨q, hq⟩ : ∃ q, w.heap.size = q := ⟨_, rfl⟩
  rw [show (Array.replicate 16 undef : Array Value) = #[undef, undef, undef, undef, undef, undef, undef, undef, undef, undef, undef, undef, undef, undef, undef, undef] from rfl]
  simp only [List.setIfInBounds_toArray, List.set_cons_zero, List.set_cons_succ, List.append_toArray, List.cons_append, List.nil_append]
  have HA := Aside0.mk (blk_alloc ha (.cells #[.int .i64 n] 44))
  have HB := Aside0.mk (blk_alloc hb (.cells #[.int .i64 n] 44))
  have HC := Aside0.mk (blk_alloc hc (.cells #[.int .i64 n] 44))
  have HQB := Aside0.mk (blk_new w (.cells #[.int .i64 n] 44))
  have HK := Aside0.mk ((Keeps.refl (fun k => k = a ∨ k = b ∨ k = c) w).alloc (.cells #[.int .i64 n] 44))
  have haq : a ≠ q := fun e => by have := blk_lt ha; omega
  have hbq : b ≠ q := fun e => by have := blk_lt hb; omega
  have hcq : c ≠ q := fun e => by have := blk_lt hc; omega
  rw [hq] at HQB ⊢
  generalize w.alloc (.cells #[.int .i64 n] 44) = w1 at HA HB HC HQB HK ⊢
  clear hta ha hb hc hq
  refine OrdE.beginS (fun w' => w'.cell? ⟨q, 0, none⟩ = some (.int .i64 n)) (fun _ => true) (by kernel_rfl) ?_
  have HA := Aside0.mk (show w1.drew.heap[a]? = _ from HA.out)
  have HB := Aside0.mk (show w1.drew.heap[b]? = _ from HB.out)
  have HC := Aside0.mk (show w1.drew.heap[c]? = _ from HC.out)
  have HK := Aside0.mk HK.out.drew
  have HQ0 := Aside0.mk (show w1.drew.cell? ⟨q, 0, none⟩ = some (.int .i64 n) from blk_cell HQB.out 0)
  have HQB := Aside0.mk (show w1.drew.heap[q]? = _ from HQB.out)
  generalize w1.drew = w2 at HA HB HC HK HQ0 HQB ⊢
  refine OrdE.takeK (i := 0) (oi := { dst := some 17, op := Go.Op.fieldAddr 44 (Go.Operand.tmp 4) 0, type := 0, pos := "chunk.go:122", after := #[{ on := 3, ground := Go.Ground.gcOnly Go.Departure.lateStores }], guard := none }) (v := .pointer (some ⟨q, 0, none⟩)) rfl (by kernel_rfl) (by kernel_rfl) (by kernel_rfl) (by kernel_rfl) (fun _ _ _ h => by rw [HQ.out] at h ⊢; exact h) (by rfl) ?_ (HQ0.out) ?_
  · intro w hS; have hx0 := hS; go_simp
  try simp only [Act.put, List.setIfInBounds_toArray, List.set_cons_zero, List.set_cons_succ]
  refine OrdE.takeK (i := 1) (oi := { dst := some 18, op := Go.Op.load 25 (Go.Operand.tmp 17), type := 25, pos := "chunk.go:122", after := #[{ on := 0, ground := Go.Ground.data }, { on := 3, ground := Go.Ground.gcOnly Go.Departure.lateStores }], guard := none }) (v := .int .i64 n) rfl (by kernel_rfl) (by kernel_rfl) (by kernel_rfl) (by kernel_rfl) (fun _ _ _ h => by rw [HQ.out] at h ⊢; exact h) (by rfl) ?_ (HQ0.out) ?_
  · intro w hS; have hx0 := hS; go_simp
  try simp only [Act.put, List.setIfInBounds_toArray, List.set_cons_zero, List.set_cons_succ]
  have ha0 := blk_cell HA.out 0
  have haz := blk_frozen HA.out 0
  refine OrdE.oneE (i := 2) (o := { dst := none, op := Go.Op.store 22 (Go.Operand.tmp 0) (Go.Operand.const (Go.Value.slice none 0 0)), type := 0, pos := "chunk.go:122", after := #[{ on := 0, ground := Go.Ground.textOnly Go.Departure.lateStores }, { on := 1, ground := Go.Ground.textOnly Go.Departure.lateStores }], guard := none }) (by kernel_rfl) rfl (fun K hK => ?_)
  go_simp
  have HA3 := Aside0.mk (blk_put HA.out 0 (.slice none 0 0) rfl)
  have HB3 := Aside0.mk (blk_far HB.out (p := ⟨a, 0, none⟩) hab.symm (.slice none 0 0))
  have HC3 := Aside0.mk (blk_far HC.out (p := ⟨a, 0, none⟩) hac.symm (.slice none 0 0))
  have HQB3 := Aside0.mk (blk_far HQB.out (p := ⟨a, 0, none⟩) haq.symm (.slice none 0 0))
  have HK3 := Aside0.mk (HK.out.setCell (p := ⟨a, 0, none⟩) (.inl (.inl rfl)) (.slice none 0 0))
  generalize w2.setCell ⟨a, 0, none⟩ (.slice none 0 0) = w3 at HA3 HB3 HC3 HQB3 HK3 ⊢
  refine hK.out _ _ (fun _ => blk_cell HQB3.out 0) ?_
  clear hK K
  try simp only [Act.put, List.setIfInBounds_toArray, List.set_cons_zero, List.set_cons_succ]
  clear ha0 haz HA HB HC HQB HK
  have hb0 := blk_cell HB3.out 0
  have hbz := blk_frozen HB3.out 0
  refine OrdE.oneE (i := 3) (o := { dst := none, op := Go.Op.store 3 (Go.Operand.tmp 1) (Go.Operand.const (Go.Value.int Go.IntKind.i64 0)), type := 0, pos := "chunk.go:122", after := #[{ on := 2, ground := Go.Ground.chain }, { on := 0, ground := Go.Ground.textOnly Go.Departure.lateStores }, { on := 1, ground := Go.Ground.textOnly Go.Departure.lateStores }, { on := 2, ground := Go.Ground.phase }], guard := none }) (by kernel_rfl) rfl (fun K hK => ?_)
  go_simp
  have HB4 := Aside0.mk (blk_put HB3.out 0 (.int .i64 0) rfl)
  have HA4 := Aside0.mk (blk_far HA3.out (p := ⟨b, 0, none⟩) hab (.int .i64 0))
  have HC4 := Aside0.mk (blk_far HC3.out (p := ⟨b, 0, none⟩) hbc.symm (.int .i64 0))
  have HQB4 := Aside0.mk (blk_far HQB3.out (p := ⟨b, 0, none⟩) hbq.symm (.int .i64 0))
  have HK4 := Aside0.mk (HK3.out.setCell (p := ⟨b, 0, none⟩) (.inl (.inr (.inl rfl))) (.int .i64 0))
  generalize w3.setCell ⟨b, 0, none⟩ (.int .i64 0) = w4 at HA4 HB4 HC4 HQB4 HK4 ⊢
  refine hK.out _ _ (fun _ => blk_cell HQB4.out 0) ?_
  clear hK K
  try simp only [Act.put, List.setIfInBounds_toArray, List.set_cons_zero, List.set_cons_succ]
  clear hb0 hbz HA3 HB3 HC3 HQB3 HK3
  have hc0 := blk_cell HC4.out 0
  have hcz := blk_frozen HC4.out 0
  refine OrdE.oneE (i := 4) (o := { dst := none, op := Go.Op.store 25 (Go.Operand.tmp 2) (Go.Operand.tmp 18), type := 0, pos := "chunk.go:122", after := #[{ on := 1, ground := Go.Ground.data }, { on := 3, ground := Go.Ground.chain }, { on := 0, ground := Go.Ground.phase }, { on := 1, ground := Go.Ground.phase }, { on := 2, ground := Go.Ground.phase }, { on := 3, ground := Go.Ground.phase }], guard := none }) (by kernel_rfl) rfl (fun K hK => ?_)
  go_simp
  have HC5 := Aside0.mk (blk_put HC4.out 0 (.int .i64 n) rfl)
  have HA5 := Aside0.mk (blk_far HA4.out (p := ⟨c, 0, none⟩) hac (.int .i64 n))
  have HB5 := Aside0.mk (blk_far HB4.out (p := ⟨c, 0, none⟩) hbc (.int .i64 n))
  have HQB5 := Aside0.mk (blk_far HQB4.out (p := ⟨c, 0, none⟩) hcq.symm (.int .i64 n))
  have HK5 := Aside0.mk (HK4.out.setCell (p := ⟨c, 0, none⟩) (.inl (.inr (.inr rfl))) (.int .i64 n))
  generalize w4.setCell ⟨c, 0, none⟩ (.int .i64 n) = w5 at HA5 HB5 HC5 HQB5 HK5 ⊢
  refine hK.out _ _ (fun _ => blk_cell HQB5.out 0) ?_
  clear hK K
  try simp only [Act.put, List.setIfInBounds_toArray, List.set_cons_zero, List.set_cons_succ]
  clear hc0 hcz HA4 HB4 HC4 HQB4 HK4
  refine OrdE.doneE (by kernel_rfl) ?_ _
  rw [HQ.out]
  cases c₀
  simp_all [bodyPostS, results, Tryd.results21]
  exact ⟨HA5.out, HB5.out, HC5.out, HK5.out⟩
end Go.Proofs.YtdhajdgcgjbdnaaDoor.Chunk

namespace Go.Proofs.YtdhajdgcgjbdnaaDoor.Chunk
open Go.RowKit Go.Proofs.YtdhajdgcgjbdnaaDoor.G Go.Proofs.YtdhajdgcgjbdnaaDoorW.PrintWords Go.Proofs.YtdhajdgcgjbdnaaDoorW.PrintMore Go.Proofs.YtdhajdgcgjbdnaaDoor.Foot Go.Proofs.YtdhajdgcgjbdnaaDoor.Plain

def NoP (Q : Exit → Act → World → Prop) : Exit → Act → World → Prop
  | .panic _, _, _ => False
  | e, a, w => Q e a w
theorem NoP_normal {Q : Exit → Act → World → Prop} {a : Act} {w : World} (h : Q .normal a w) : NoP Q .normal a w := h
theorem wp_nopanic {P : Program} {c : Code} {Q : Exit → Act → World → Prop} {a : Act} {w : World} (h : Code.wp P c (NoP Q) a w) : Code.wp P c Q a w :=
  Code.wp_mono (fun e a w h => by cases e <;> first | exact h | exact h.elim) h
def openG (xs : List Int) : Got (List Int × List Int) := bodyG textL fieldL (xs.length + 1) xs []
def OpenPost (xs : List Int) (w : World) (e : Ending) (w' : World) : Prop :=
  Below w.heap.size w w' ∧ match openG xs with
    | .ok (o, r) => ∃ v, e = .returned (.tuple #[v, .int .i64 ((xs.length - r.length : Nat) : Int), .int .i64 0]) ∧ Rw w' w.heap.size v o
    | .bad n => e = .returned (.tuple #[.slice none 0 0, .int .i64 0, .int .i64 n])
set_option maxHeartbeats 4000000 in
set_option maxRecDepth 100000 in
theorem open_calls (A : Option Addr) (c : Nat) (xs : List Int) (w : World) (hC : Kd.C (Kd.int .u8) w A xs.length xs) (hc : xs.length ≤ c) (hl : xs.length ≤ 1000000000) (hr : ∀ c ∈ xs, 0 ≤ c ∧ c ≤ 255) :
    Calls Tryd.prog 10 #[.slice A xs.length c] w (OpenPost xs w) := by
  have hmf : ∀ (fn : Fn) (first cap : Array Value) (w : World), (Instr.makeFunc fn first cap).run Tryd.prog w = .ok (.func fn first cap) w := fun _ _ _ _ => rfl
  obtain ⟨P, hP⟩ : ∃ P, w.heap.size = P := ⟨_, rfl⟩
  let a1 : World := w.alloc (.cells #[.slice none 0 0] 22)
  let a2 : World := a1.alloc (.cells #[.int .i64 0] 3)
  let a3 : World := a2.alloc (.cells #[.int .i64 0] 25)
  let a4 : World := a3.alloc (RO A xs.length c 0)
  have z1 : a1.heap.size = P + 1 := by show (w.alloc _).heap.size = _; rw [World.size_alloc, hP]
  have z2 : a2.heap.size = P + 2 := by show (a1.alloc _).heap.size = _; rw [World.size_alloc, z1]
  have z3 : a3.heap.size = P + 3 := by show (a2.alloc _).heap.size = _; rw [World.size_alloc, z2]
  have z4 : a4.heap.size = P + 4 := by show (a3.alloc _).heap.size = _; rw [World.size_alloc, z3]
  have b0 : a4.heap[P]? = some (.cells #[.slice none 0 0] 22 (0, 0)) := blk_alloc (blk_alloc (blk_alloc (by have := blk_new w (.cells #[.slice none 0 0] 22); rw [hP] at this; exact this) _) _) _
  have b1 : a4.heap[P + 1]? = some (.cells #[.int .i64 0] 3 (0, 0)) := blk_alloc (blk_alloc (by have := blk_new a1 (.cells #[.int .i64 0] 3); rw [z1] at this; exact this) _) _
  have b2 : a4.heap[P + 2]? = some (.cells #[.int .i64 0] 25 (0, 0)) := blk_alloc (by have := blk_new a2 (.cells #[.int .i64 0] 25); rw [z2] at this; exact this) _
  have b3 : a4.heap[P + 3]? = some (RO A xs.length c 0) := by have := blk_new a3 (RO A xs.length c 0); rw [z3] at this; exact this
  have bb : Below w.heap.size w a4 := below_alloc (below_alloc (below_alloc (below_alloc (Below.refl w.heap.size w) _) _) _) _
  have H0 := Aside0.mk b0
  have H1 := Aside0.mk b1
  have H2 := Aside0.mk b2
  have HRD : Aside0 (Rd a4 (P + 3) A c xs 0) := ⟨⟨b3, CS.of_arg hC bb (fun k hk => by omega), hc, hl, Nat.zero_le _, hr⟩⟩
  have HBB := Aside0.mk bb
  have HZ4 := Lib.hid z4
  have HPP := Lib.hid hP
  have ha4 : (((w.alloc (.cells #[.slice none 0 0] 22)).alloc (.cells #[.int .i64 0] 3)).alloc (.cells #[.int .i64 0] 25)).alloc (.cells #[.slice A xs.length c, .int .i64 0] 48) = a4 := rfl
  clear_value a4
  clear b0 b1 b2 b3 bb z1 z2 z3 z4 hC hc hl hr
  have HA4 := Lib.hid ha4
  clear ha4
  clear a3 a2 a1
  go_enter_defers Tryd.func10, Tryd.ntmps10
  go_wp2_with fail
  rw [HA4.out]
  with_reducible refine (body_calls (P + 3) A c xs 0 (P + 4) a4 HRD.out HZ4.out).mono ?_
  rintro e w5 ⟨hk5, hp5⟩
  have HO0 := Aside0.mk (hk5.blk H0.out (by omega))
  have HO1 := Aside0.mk (hk5.blk H1.out (by omega))
  have HO2 := Aside0.mk (hk5.blk H2.out (by omega))
  have HKB := Aside0.mk (HBB.out.trans (hk5.to_below HBB.out.size (fun k hk => by have := HPP.out; omega)))
  clear hk5 H0 H1 H2 HBB HRD
  rw [List.drop_zero] at hp5
  cases hbg : bodyG textL fieldL (xs.length + 1) xs [] with
  | bad n =>
    rw [hbg] at hp5
    have HG := Lib.hid (show openG xs = .bad n from hbg)
    subst hp5
    clear hbg
    go_wp2_with fail
    refine leaves_cons (f := 21) (args := #[.pointer (some ⟨P, 0, none⟩), .pointer (some ⟨P + 1, 0, none⟩), .pointer (some ⟨P + 2, 0, none⟩)]) (by simp) (by simp [go_sem]) ?_
    refine (catch_stop P (P + 1) (P + 2) n _ _ _ w5 HO0.out HO1.out HO2.out (by omega) (by omega) (by omega)).mono ?_
    rintro e u' w7 ⟨rfl, rfl, hA, hB, hC, hK⟩
    have c0 : w7.cell? ⟨P, 0, none⟩ = some (.slice none 0 0) := blk_cell hA 0
    have d0 : w7.cell? ⟨P + 1, 0, none⟩ = some (.int .i64 0) := blk_cell hB 0
    have e0 : w7.cell? ⟨P + 2, 0, none⟩ = some (.int .i64 n) := blk_cell hC 0
    have hbl : Below w.heap.size w w7 := HKB.out.trans (hK.to_below HKB.out.size (fun k hk => by have := HPP.out; omega))
    simp [Leaves, settle, results, Tryd.results10, go_sem, c0, d0, e0]
    refine ⟨hbl, ?_⟩
    rw [HG.out]
  | ok a =>
    obtain ⟨o, r⟩ := a
    rw [hbg] at hp5
    have HG := Lib.hid (show openG xs = .ok (o, r) from hbg)
    obtain ⟨v, rfl, hrw, hb3⟩ := hp5
    obtain ⟨A3, c3, rfl⟩ := Kd.R_slice hrw
    have HRR := Aside0.mk hrw
    obtain ⟨i3, hi3⟩ : ∃ i3, xs.length - r.length = i3 := ⟨_, rfl⟩
    rw [hi3] at hb3
    have HI3 := Lib.hid hi3
    have HO3 := Aside0.mk hb3
    obtain ⟨n3, hn3⟩ : ∃ n3, o.length = n3 := ⟨_, rfl⟩
    rw [hn3] at HRR ⊢
    clear hrw hb3 hi3 hbg hn3
    have hs0 := blk_cell HO0.out 0
    have hsz := blk_frozen HO0.out 0
    go_wp2_with fail
    have N0 := Aside0.mk (blk_put HO0.out 0 (.slice A3 n3 c3) rfl)
    have N1 := Aside0.mk (blk_far HO1.out (p := ⟨P, 0, none⟩) (show P + 1 ≠ P by omega) (.slice A3 n3 c3))
    have N2 := Aside0.mk (blk_far HO2.out (p := ⟨P, 0, none⟩) (show P + 2 ≠ P by omega) (.slice A3 n3 c3))
    have N3 := Aside0.mk (blk_far HO3.out (p := ⟨P, 0, none⟩) (show P + 3 ≠ P by omega) (.slice A3 n3 c3))
    have NB := Aside0.mk (HKB.out.setCell (p := ⟨P, 0, none⟩) (by have := HPP.out; show w.heap.size ≤ P; omega) (.slice A3 n3 c3))
    have NR := Aside0.mk (Kd.R_far HRR.out (p := ⟨P, 0, none⟩) (fun k hk => by show k ≠ P; omega) (.slice A3 n3 c3))
    clear HO0 HO1 HO2 HO3 HKB HRR hs0 hsz
    generalize w5.setCell ⟨P, 0, none⟩ (.slice A3 n3 c3) = w5 at N0 N1 N2 N3 NB NR ⊢
    have HO0 := N0
    have HO1 := N1
    have HO2 := N2
    have HO3 := N3
    have HKB := NB
    have HRR := NR
    clear N0 N1 N2 N3 NB NR
    refine wp_nopanic ?_
    refine OrdE.beginS (fun w' => w'.cell? ⟨P, 0, none⟩ = some (.slice A3 n3 c3) ∧ w'.cell? ⟨P + 3, 1, none⟩ = some (.int .i64 (i3 : Int))) (fun _ => true) (by kernel_rfl) ?_
    have HO0 := Aside0.mk (show w5.drew.heap[P]? = _ from HO0.out)
    have HO1 := Aside0.mk (show w5.drew.heap[P + 1]? = _ from HO1.out)
    have HO2 := Aside0.mk (show w5.drew.heap[P + 2]? = _ from HO2.out)
    have HO3 := Aside0.mk (show w5.drew.heap[P + 3]? = _ from HO3.out)
    have HKB := Aside0.mk (below_drew HKB.out)
    have HRR := Aside0.mk (Kd.R_step HRR.out (w1 := w5.drew) (fun k _ hl => rfl))
    generalize w5.drew = w6 at HO0 HO1 HO2 HO3 HKB HRR ⊢
    refine OrdE.takeK (i := 0) (oi := { dst := some 12, op := Go.Op.load 22 (Go.Operand.tmp 2), type := 22, pos := "chunk.go:127", after := #[], guard := none }) (v := .slice A3 n3 c3) rfl (by kernel_rfl) (by kernel_rfl) (by kernel_rfl) (by kernel_rfl) (fun _ _ _ h => h.elim) (by rfl) ?_ (⟨blk_cell HO0.out 0, blk_cell HO3.out 1⟩) ?_
    · intro w hS; have ⟨hx0, hx1⟩ := hS; go_simp
    try simp only [Act.put, List.setIfInBounds_toArray, List.set_cons_zero, List.set_cons_succ]
    refine OrdE.takeK (i := 1) (oi := { dst := some 13, op := Go.Op.move (Go.Operand.tmp 5), type := 46, pos := "chunk.go:127", after := #[], guard := none }) (v := .pointer (some ⟨P + 3, 0, none⟩)) rfl (by kernel_rfl) (by kernel_rfl) (by kernel_rfl) (by kernel_rfl) (fun _ _ _ h => h.elim) (by rfl) ?_ (⟨blk_cell HO0.out 0, blk_cell HO3.out 1⟩) ?_
    · intro w hS; have ⟨hx0, hx1⟩ := hS; go_simp
    try simp only [Act.put, List.setIfInBounds_toArray, List.set_cons_zero, List.set_cons_succ]
    refine OrdE.takeK (i := 2) (oi := { dst := some 14, op := Go.Op.nilCheck (Go.Operand.tmp 13), type := 0, pos := "chunk.go:127", after := #[{ on := 1, ground := Go.Ground.data }], guard := none }) (v := .pointer (some ⟨P + 3, 0, none⟩)) rfl (by kernel_rfl) (by kernel_rfl) (by kernel_rfl) (by kernel_rfl) (fun _ _ _ h => h.elim) (by rfl) ?_ (⟨blk_cell HO0.out 0, blk_cell HO3.out 1⟩) ?_
    · intro w hS; have ⟨hx0, hx1⟩ := hS; go_simp
    try simp only [Act.put, List.setIfInBounds_toArray, List.set_cons_zero, List.set_cons_succ]
    refine OrdE.takeK (i := 3) (oi := { dst := some 15, op := Go.Op.fieldAddr 48 (Go.Operand.tmp 14) 1, type := 0, pos := "chunk.go:127", after := #[{ on := 2, ground := Go.Ground.data }], guard := none }) (v := .pointer (some ⟨P + 3, 1, none⟩)) rfl (by kernel_rfl) (by kernel_rfl) (by kernel_rfl) (by kernel_rfl) (fun _ _ _ h => h.elim) (by rfl) ?_ (⟨blk_cell HO0.out 0, blk_cell HO3.out 1⟩) ?_
    · intro w hS; have ⟨hx0, hx1⟩ := hS; go_simp
    try simp only [Act.put, List.setIfInBounds_toArray, List.set_cons_zero, List.set_cons_succ]
    refine OrdE.takeK (i := 4) (oi := { dst := some 16, op := Go.Op.load 3 (Go.Operand.tmp 15), type := 3, pos := "chunk.go:127", after := #[{ on := 3, ground := Go.Ground.data }], guard := none }) (v := .int .i64 (i3 : Int)) rfl (by kernel_rfl) (by kernel_rfl) (by kernel_rfl) (by kernel_rfl) (fun _ _ _ h => h.elim) (by rfl) ?_ (⟨blk_cell HO0.out 0, blk_cell HO3.out 1⟩) ?_
    · intro w hS; have ⟨hx0, hx1⟩ := hS; go_simp
    try simp only [Act.put, List.setIfInBounds_toArray, List.set_cons_zero, List.set_cons_succ]
    have hx0 := blk_cell HO0.out 0
    have hxz := blk_frozen HO0.out 0
    refine OrdE.oneE (i := 5) (o := { dst := none, op := Go.Op.store 22 (Go.Operand.tmp 2) (Go.Operand.tmp 12), type := 0, pos := "chunk.go:127", after := #[{ on := 0, ground := Go.Ground.data }, { on := 0, ground := Go.Ground.phase }, { on := 1, ground := Go.Ground.textOnly Go.Departure.lateStoresUnsure }, { on := 2, ground := Go.Ground.textOnly Go.Departure.lateStoresUnsure }, { on := 3, ground := Go.Ground.textOnly Go.Departure.lateStoresUnsure }, { on := 4, ground := Go.Ground.textOnly Go.Departure.lateStoresUnsure }], guard := none }) (by kernel_rfl) rfl (fun K hK => ?_)
    go_simp
    have N0 := Aside0.mk (blk_put HO0.out 0 (.slice A3 n3 c3) rfl)
    have N1 := Aside0.mk (blk_far HO1.out (p := ⟨P, 0, none⟩) (show P + 1 ≠ P by omega) (.slice A3 n3 c3))
    have N2 := Aside0.mk (blk_far HO2.out (p := ⟨P, 0, none⟩) (show P + 2 ≠ P by omega) (.slice A3 n3 c3))
    have N3 := Aside0.mk (blk_far HO3.out (p := ⟨P, 0, none⟩) (show P + 3 ≠ P by omega) (.slice A3 n3 c3))
    have NB := Aside0.mk (HKB.out.setCell (p := ⟨P, 0, none⟩) (by have := HPP.out; show w.heap.size ≤ P; omega) (.slice A3 n3 c3))
    have NR := Aside0.mk (Kd.R_far HRR.out (p := ⟨P, 0, none⟩) (fun k hk => by show k ≠ P; omega) (.slice A3 n3 c3))
    generalize w6.setCell ⟨P, 0, none⟩ (.slice A3 n3 c3) = w7 at N0 N1 N2 N3 NB NR ⊢
    clear HO0 HO1 HO2 HO3 HKB HRR hx0 hxz
    have HO0 := N0
    have HO1 := N1
    have HO2 := N2
    have HO3 := N3
    have HKB := NB
    have HRR := NR
    clear N0 N1 N2 N3 NB NR
    refine hK.out _ _ (fun _ => ⟨blk_cell HO0.out 0, blk_cell HO3.out 1⟩) ?_
    clear hK K
    try simp only [Act.put, List.setIfInBounds_toArray, List.set_cons_zero, List.set_cons_succ]
    have hx0 := blk_cell HO1.out 0
    have hxz := blk_frozen HO1.out 0
    refine OrdE.oneE (i := 6) (o := { dst := none, op := Go.Op.store 3 (Go.Operand.tmp 3) (Go.Operand.tmp 16), type := 0, pos := "chunk.go:127", after := #[{ on := 4, ground := Go.Ground.data }, { on := 5, ground := Go.Ground.chain }, { on := 0, ground := Go.Ground.phase }, { on := 1, ground := Go.Ground.phase }, { on := 2, ground := Go.Ground.phase }, { on := 3, ground := Go.Ground.phase }, { on := 4, ground := Go.Ground.phase }, { on := 5, ground := Go.Ground.phase }], guard := none }) (by kernel_rfl) rfl (fun K hK => ?_)
    go_simp
    have N0 := Aside0.mk (blk_far HO0.out (p := ⟨P + 1, 0, none⟩) (show P ≠ P + 1 by omega) (.int .i64 (i3 : Int)))
    have N1 := Aside0.mk (blk_put HO1.out 0 (.int .i64 (i3 : Int)) rfl)
    have N2 := Aside0.mk (blk_far HO2.out (p := ⟨P + 1, 0, none⟩) (show P + 2 ≠ P + 1 by omega) (.int .i64 (i3 : Int)))
    have N3 := Aside0.mk (blk_far HO3.out (p := ⟨P + 1, 0, none⟩) (show P + 3 ≠ P + 1 by omega) (.int .i64 (i3 : Int)))
    have NB := Aside0.mk (HKB.out.setCell (p := ⟨P + 1, 0, none⟩) (by have := HPP.out; show w.heap.size ≤ P + 1; omega) (.int .i64 (i3 : Int)))
    have NR := Aside0.mk (Kd.R_far HRR.out (p := ⟨P + 1, 0, none⟩) (fun k hk => by show k ≠ P + 1; omega) (.int .i64 (i3 : Int)))
    generalize w7.setCell ⟨P + 1, 0, none⟩ (.int .i64 (i3 : Int)) = w8 at N0 N1 N2 N3 NB NR ⊢
    clear HO0 HO1 HO2 HO3 HKB HRR hx0 hxz
    have HO0 := N0
    have HO1 := N1
    have HO2 := N2
    have HO3 := N3
    have HKB := NB
    have HRR := NR
    clear N0 N1 N2 N3 NB NR
    refine hK.out _ _ (fun _ => ⟨blk_cell HO0.out 0, blk_cell HO3.out 1⟩) ?_
    clear hK K
    try simp only [Act.put, List.setIfInBounds_toArray, List.set_cons_zero, List.set_cons_succ]
    have hx0 := blk_cell HO2.out 0
    have hxz := blk_frozen HO2.out 0
    refine OrdE.oneE (i := 7) (o := { dst := none, op := Go.Op.store 25 (Go.Operand.tmp 4) (Go.Operand.const (Go.Value.int Go.IntKind.i64 0)), type := 0, pos := "chunk.go:127", after := #[{ on := 6, ground := Go.Ground.chain }, { on := 0, ground := Go.Ground.phase }, { on := 1, ground := Go.Ground.phase }, { on := 2, ground := Go.Ground.phase }, { on := 3, ground := Go.Ground.phase }, { on := 4, ground := Go.Ground.phase }, { on := 5, ground := Go.Ground.phase }, { on := 6, ground := Go.Ground.phase }], guard := none }) (by kernel_rfl) rfl (fun K hK => ?_)
    go_simp
    have N0 := Aside0.mk (blk_far HO0.out (p := ⟨P + 2, 0, none⟩) (show P ≠ P + 2 by omega) (.int .i64 0))
    have N1 := Aside0.mk (blk_far HO1.out (p := ⟨P + 2, 0, none⟩) (show P + 1 ≠ P + 2 by omega) (.int .i64 0))
    have N2 := Aside0.mk (blk_put HO2.out 0 (.int .i64 0) rfl)
    have N3 := Aside0.mk (blk_far HO3.out (p := ⟨P + 2, 0, none⟩) (show P + 3 ≠ P + 2 by omega) (.int .i64 0))
    have NB := Aside0.mk (HKB.out.setCell (p := ⟨P + 2, 0, none⟩) (by have := HPP.out; show w.heap.size ≤ P + 2; omega) (.int .i64 0))
    have NR := Aside0.mk (Kd.R_far HRR.out (p := ⟨P + 2, 0, none⟩) (fun k hk => by show k ≠ P + 2; omega) (.int .i64 0))
    generalize w8.setCell ⟨P + 2, 0, none⟩ (.int .i64 0) = w9 at N0 N1 N2 N3 NB NR ⊢
    clear HO0 HO1 HO2 HO3 HKB HRR hx0 hxz
    have HO0 := N0
    have HO1 := N1
    have HO2 := N2
    have HO3 := N3
    have HKB := NB
    have HRR := NR
    clear N0 N1 N2 N3 NB NR
    refine hK.out _ _ (fun _ => ⟨blk_cell HO0.out 0, blk_cell HO3.out 1⟩) ?_
    clear hK K
    try simp only [Act.put, List.setIfInBounds_toArray, List.set_cons_zero, List.set_cons_succ]
    refine OrdE.doneE (by kernel_rfl) ?_ _
    refine NoP_normal ?_
    go_wp2_with fail
    refine leaves_cons (f := 21) (args := #[.pointer (some ⟨P, 0, none⟩), .pointer (some ⟨P + 1, 0, none⟩), .pointer (some ⟨P + 2, 0, none⟩)]) (by simp) (by simp [go_sem]) ?_
    refine (catch_idle _ _ _ _).mono ?_
    rintro e u' w7 ⟨rfl, rfl, hw7⟩
    rw [hw7]
    have c0 : w9.cell? ⟨P, 0, none⟩ = some (.slice A3 n3 c3) := blk_cell HO0.out 0
    have d0 : w9.cell? ⟨P + 1, 0, none⟩ = some (.int .i64 (i3 : Int)) := blk_cell HO1.out 0
    have e0 : w9.cell? ⟨P + 2, 0, none⟩ = some (.int .i64 0) := blk_cell HO2.out 0
    simp [Leaves, settle, results, Tryd.results10, go_sem, c0, d0, e0]
    refine ⟨HKB.out, ?_⟩
    rw [HG.out]
    exact ⟨_, by rw [← HI3.out], Kd.R_mono (Kd.R_lower HRR.out (by have := HPP.out; omega)) (fun k hk => by have := HPP.out; omega)⟩
end Go.Proofs.YtdhajdgcgjbdnaaDoor.Chunk
