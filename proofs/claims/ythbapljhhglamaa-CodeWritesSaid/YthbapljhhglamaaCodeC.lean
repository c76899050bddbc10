/- Sums of bytes. -/
import Derived.Test.YthbapljhhglamaaCodeBits
import Derived.Test.YthbapljhhglamaaDrawn
import Derived.Test.YthbapljhhglamaaWMore
import Derived.Test.YthbapljhhglamaaProg
import Derived.Outline
set_option linter.unusedVariables false
set_option linter.unusedSimpArgs false
namespace Go.Proofs.Ythbapljhhglamaa.Code
open Go.RowKit Go.Proofs.YthbapljhhglamaaW.PrintWords Go.Proofs.YthbapljhhglamaaW.PrintMore Go.Proofs.Ythbapljhhglamaa.CodeL

theorem byte_at {w : World} {A : Option Addr} {n : Nat} {xs : List Int} (h : Kd.C (Kd.int .u8) w A n xs) (i : Nat) (hi : i < n) : ∃ ad, A = some ad ∧ w.cell? (ad.add i) = some (.int .u8 (xs.getD i 0)) := by
  obtain ⟨ad, c, e, _, hK, hc⟩ := Kd.C_get h 0 (i : Int) (by omega) (by omega)
  have hk : c = [.int .u8 (xs.getD (i : Int).toNat 0)] := hK
  subst hk
  refine ⟨ad, e, ?_⟩
  have := hc 0 _ rfl
  simpa [Kd.int, Kd.scalar] using this
/-- One bit, eight bits, all bytes. -/
def c1 (s : Nat) : Nat := if s % 2 = 1 then (s / 2) ^^^ 3988292384 else s / 2
def cN : Nat → Nat → Nat
  | 0, s => s
  | k + 1, s => cN k (c1 s)
def crcS (s : Nat) (l : List Int) : Nat := l.foldl (fun s x => cN 8 (s ^^^ x.toNat)) s
theorem c1_lt {s : Nat} (h : s < 4294967296) : c1 s < 4294967296 := by
  unfold c1
  split
  · exact Nat.xor_lt_two_pow (n := 32) (by omega) (by decide)
  · omega
theorem cN_lt : ∀ (k : Nat) {s : Nat}, s < 4294967296 → cN k s < 4294967296
  | 0, _, h => h
  | k + 1, _, h => cN_lt k (c1_lt h)
theorem cN_succ : ∀ (k s : Nat), cN (k + 1) s = c1 (cN k s)
  | 0, _ => rfl
  | k + 1, s => by rw [cN, cN_succ k (c1 s), cN]
theorem xor_byte {s : Nat} {x : Int} (h : s < 4294967296) (h0 : 0 ≤ x) (h1 : x ≤ 255) : s ^^^ x.toNat < 4294967296 := Nat.xor_lt_two_pow (n := 32) (by omega) (by omega)
theorem xor_u32 {s : Nat} {x : Int} (h : s < 4294967296) (h0 : 0 ≤ x) (h1 : x ≤ 255) : bits .xor .u32 (s : Int) x = ((s ^^^ x.toNat : Nat) : Int) := by
  obtain ⟨n, rfl⟩ := Int.eq_ofNat_of_zero_le h0
  rw [u32_xor_nat _ _ h (by omega), Int.toNat_natCast]
theorem and_one {s : Nat} (h : s < 4294967296) : bits .and .u32 (s : Int) 1 = ((s % 2 : Nat) : Int) := by
  rw [show (1 : Int) = ((1 : Nat) : Int) from rfl, u32_and_nat _ _ h (by decide), nat_mask1]
theorem xor_poly {s : Nat} (h : s < 4294967296) : bits .xor .u32 ((s : Int) / 2) 3988292384 = ((s / 2 ^^^ 3988292384 : Nat) : Int) := by
  rw [show (3988292384 : Int) = ((3988292384 : Nat) : Int) from rfl, show ((s : Int) / 2) = ((s / 2 : Nat) : Int) by omega, u32_xor_nat _ _ (by omega) (by decide)]
theorem xor_zero {s : Nat} (h : s < 4294967296) : bits .xor .u32 ((s : Int) / 2) 0 = ((s / 2 : Nat) : Int) := by
  rw [show (0 : Int) = ((0 : Nat) : Int) from rfl, show ((s : Int) / 2) = ((s / 2 : Nat) : Int) by omega, u32_xor_nat _ _ (by omega) (by decide), Nat.xor_zero]
theorem crcS_snoc (s : Nat) (l : List Int) (x : Int) : crcS s (l ++ [x]) = cN 8 (crcS s l ^^^ x.toNat) := by simp [crcS]
theorem crcS_take (s : Nat) (l : List Int) (i : Nat) (h : i < l.length) : crcS s (l.take (i + 1)) = cN 8 (crcS s (l.take i) ^^^ (l.getD i 0).toNat) := by
  rw [List.take_succ_eq_append_getElem h, crcS_snoc, List.getD_eq_getElem?_getD, List.getElem?_eq_getElem h]
  rfl
theorem crcS_lt (l : List Int) (h : ∀ x ∈ l, 0 ≤ x ∧ x ≤ 255) (s : Nat) (hs : s < 4294967296) : crcS s l < 4294967296 := by
  induction l generalizing s with
  | nil => exact hs
  | cons x l ih =>
    have hx := h x List.mem_cons_self
    exact ih (fun y hy => h y (List.mem_cons_of_mem _ hy)) _ (cN_lt 8 (xor_byte hs hx.1 hx.2))
def crcF (l : List Int) : Int := bits BinOp.xor IntKind.u32 IntKind.u32.max ((crcS 4294967295 l : Nat) : Int)
set_option maxHeartbeats 1000000 in
set_option maxRecDepth 100000 in
theorem code_crc (A : Option Addr) (c : Nat) (l : List Int) (w : World) (hC : Kd.C (Kd.int .u8) w A l.length l) (h8 : ∀ x ∈ l, 0 ≤ x ∧ x ≤ 255) :
    Calls Try.prog 9 #[.slice A l.length c] w fun e w' => e = .returned (.int .u32 (crcF l)) ∧ w' = w := by
  have hlm : l.length ≤ 9223372036854775807 := hC.2.1
  have HC := Lib.hid hC
  have H8 := Lib.hid h8
  clear hC h8
  go_enter Try.func9, Try.ntmps9
  go_wp2
  go_loop [3, 8] (fun v3 v8 => ∃ (i s : Nat), v8 = .int .i64 (i : Int) ∧ v3 = .int .u32 (s : Int) ∧ i ≤ l.length ∧ Aside0 (s = crcS 4294967295 (l.take i)) ∧ s < 4294967296) (fun _ v8 => l.length - (intOf v8).toNat)
  case atStart => exact ⟨0, 4294967295, rfl, rfl, Nat.zero_le _, ⟨rfl⟩, by decide⟩
  case round =>
    obtain ⟨i, s, rfl, rfl, hi, HS, hs⟩ := hrel
    by_cases hlt : i < l.length
    · obtain ⟨ad, rfl, hx⟩ := byte_at HC.out i hlt
      have hm := H8.out _ (List.getElem_mem (l := l) hlt)
      have hg : l.getD i 0 = l[i] := by rw [List.getD_eq_getElem?_getD, List.getElem?_eq_getElem hlt]; rfl
      rw [← hg] at hm
      have HT := Lib.hid (crcS_take 4294967295 l i hlt)
      generalize l.getD i 0 = x at hx hm HT hg
      have HX := Lib.hid (xor_u32 hs hm.1 hm.2)
      have hxl := xor_byte hs hm.1 hm.2
      clear hg
      go_wp2
      go_loop [3, 16] (fun v3 v16 => ∃ (k r : Nat), v16 = .int .i64 (k : Int) ∧ v3 = .int .u32 (r : Int) ∧ k ≤ 8 ∧ Aside0 (r = cN k (s ^^^ x.toNat)) ∧ r < 4294967296) (fun _ v16 => 8 - (intOf v16).toNat)
      case atStart => exact ⟨0, s ^^^ x.toNat, rfl, by rw [HX.out], by omega, ⟨rfl⟩, hxl⟩
      case round =>
        obtain ⟨k, r, rfl, rfl, hk, HR, hr⟩ := hrel
        by_cases hk8 : k < 8
        · have HN := Lib.hid (cN_succ k (s ^^^ x.toNat))
          have hl1 := c1_lt hr
          have ha := and_one hr
          by_cases h2 : r % 2 = 1
          · have hx1 := xor_poly hr
            have HC1 := Lib.hid (show c1 r = r / 2 ^^^ 3988292384 by unfold c1; rw [if_pos h2])
            rw [h2] at ha
            clear h2
            go_wp2
            go_round
            case rel => exact ⟨k + 1, c1 r, by go_num, by rw [HC1.out], by omega, ⟨by rw [HN.out, ← HR.out]⟩, hl1⟩
            case measure => simp [intOf]; omega
          · have hx1 := xor_zero hr
            have HC1 := Lib.hid (show c1 r = r / 2 by unfold c1; rw [if_neg h2])
            rw [show r % 2 = 0 by omega] at ha
            clear h2
            go_wp2
            go_round
            case rel => exact ⟨k + 1, c1 r, by go_num, by rw [HC1.out]; go_num, by omega, ⟨by rw [HN.out, ← HR.out]⟩, hl1⟩
            case measure => simp [intOf]; omega
        · have hk88 : k = 8 := by omega
          subst hk88
          go_wp2
          go_round
          case rel => exact ⟨i + 1, r, by go_num, rfl, by omega, ⟨by rw [HT.out, ← HS.out]; exact HR.out⟩, hr⟩
          case measure => simp [intOf]; omega
    · have hil : i = l.length := by omega
      subst hil
      have hS := HS.out
      rw [List.take_length] at hS
      go_wp2
      go_ret
      exact ⟨by unfold crcF; rw [← hS]; rfl, rfl⟩
set_option maxHeartbeats 1000000 in
set_option maxRecDepth 100000 in
theorem ref_crc (A : Option Addr) (c : Nat) (l : List Int) (w : World) (hC : Kd.C (Kd.int .u8) w A l.length l) (h8 : ∀ x ∈ l, 0 ≤ x ∧ x ≤ 255) :
    Calls Try.prog 10 #[.slice A l.length c] w fun e w' => e = .returned (.int .u32 (crcF l)) ∧ w' = w := by
  have hlm : l.length ≤ 9223372036854775807 := hC.2.1
  have HC := Lib.hid hC
  have H8 := Lib.hid h8
  clear hC h8
  go_enter Try.func10, Try.ntmps10
  go_wp2
  go_loop [3, 4] (fun v3 v8 => ∃ (i s : Nat), v8 = .int .i64 (i : Int) ∧ v3 = .int .u32 (s : Int) ∧ i ≤ l.length ∧ Aside0 (s = crcS 4294967295 (l.take i)) ∧ s < 4294967296) (fun _ v8 => l.length - (intOf v8).toNat)
  case atStart => exact ⟨0, 4294967295, rfl, rfl, Nat.zero_le _, ⟨rfl⟩, by decide⟩
  case round =>
    obtain ⟨i, s, rfl, rfl, hi, HS, hs⟩ := hrel
    by_cases hlt : i < l.length
    · obtain ⟨ad, rfl, hx⟩ := byte_at HC.out i hlt
      have hm := H8.out _ (List.getElem_mem (l := l) hlt)
      have hg : l.getD i 0 = l[i] := by rw [List.getD_eq_getElem?_getD, List.getElem?_eq_getElem hlt]; rfl
      rw [← hg] at hm
      have HT := Lib.hid (crcS_take 4294967295 l i hlt)
      generalize l.getD i 0 = x at hx hm HT hg
      have HX := Lib.hid (xor_u32 hs hm.1 hm.2)
      have hxl := xor_byte hs hm.1 hm.2
      clear hg
      go_wp2
      go_loop [3, 5] (fun v3 v16 => ∃ (k r : Nat), v16 = .int .i64 (k : Int) ∧ v3 = .int .u32 (r : Int) ∧ k ≤ 8 ∧ Aside0 (r = cN k (s ^^^ x.toNat)) ∧ r < 4294967296) (fun _ v16 => 8 - (intOf v16).toNat)
      case atStart => exact ⟨0, s ^^^ x.toNat, rfl, by rw [HX.out], by omega, ⟨rfl⟩, hxl⟩
      case round =>
        obtain ⟨k, r, rfl, rfl, hk, HR, hr⟩ := hrel
        by_cases hk8 : k < 8
        · have HN := Lib.hid (cN_succ k (s ^^^ x.toNat))
          have hl1 := c1_lt hr
          have ha := and_one hr
          by_cases h2 : r % 2 = 1
          · have hx1 := xor_poly hr
            have HC1 := Lib.hid (show c1 r = r / 2 ^^^ 3988292384 by unfold c1; rw [if_pos h2])
            rw [h2] at ha
            clear h2
            go_wp2
            go_round
            case rel => exact ⟨k + 1, c1 r, by go_num, by rw [HC1.out], by omega, ⟨by rw [HN.out, ← HR.out]⟩, hl1⟩
            case measure => simp [intOf]; omega
          · have hx1 := xor_zero hr
            have HC1 := Lib.hid (show c1 r = r / 2 by unfold c1; rw [if_neg h2])
            rw [show r % 2 = 0 by omega] at ha
            clear h2
            go_wp2
            go_round
            case rel => exact ⟨k + 1, c1 r, by go_num, by rw [HC1.out]; go_num, by omega, ⟨by rw [HN.out, ← HR.out]⟩, hl1⟩
            case measure => simp [intOf]; omega
        · have hk88 : k = 8 := by omega
          subst hk88
          go_wp2
          go_round
          case rel => exact ⟨i + 1, r, by go_num, rfl, by omega, ⟨by rw [HT.out, ← HS.out]; exact HR.out⟩, hr⟩
          case measure => simp [intOf]; omega
    · have hil : i = l.length := by omega
      subst hil
      have hS := HS.out
      rw [List.take_length] at hS
      go_wp2
      go_ret
      exact ⟨by unfold crcF; rw [← hS]; rfl, rfl⟩
theorem crc_known : crcF [49, 50, 51, 52, 53, 54, 55, 56, 57] = 3421780262 := by decide +kernel
end Go.Proofs.Ythbapljhhglamaa.Code
