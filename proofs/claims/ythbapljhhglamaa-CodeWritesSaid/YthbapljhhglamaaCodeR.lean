/- A reader: a number is read. -/
import Derived.Test.YthbapljhhglamaaCodeW
import Derived.Test.YthbapljhhglamaaCodeMust
import Derived.Test.YthbapljhhglamaaCloneB
set_option linter.unusedVariables false
set_option linter.unusedSimpArgs false
namespace Go.Proofs.Ythbapljhhglamaa.Code
open Go.RowKit Go.Proofs.Ythbapljhhglamaa.G Go.Proofs.YthbapljhhglamaaW.PrintWords Go.Proofs.YthbapljhhglamaaW.PrintMore Go.Proofs.Ythbapljhhglamaa.Foot Go.Proofs.Ythbapljhhglamaa.CodeL

/-- A reader that has not failed: its block, the bytes that are left, in blocks of F. -/
def Rdo (W : World) (p : Nat) (xs : List Int) (F : Nat → Prop) : Prop :=
  ∃ A c, W.heap[p]? = some (.cells #[.slice A xs.length c, .bool false] 63 (0, 0)) ∧ Kd.C (Kd.int .u8) W A xs.length xs ∧ xs.length ≤ c ∧ (∀ a, A = some a → F a.block ∧ a.block ≠ p) ∧ Bytes8 xs
theorem add_block (a : Addr) (n : Nat) : (a.add n).block = a.block := by
  unfold Addr.add
  split <;> rfl
theorem C_move {k : IntKind} {w w' : World} {A : Option Addr} {n : Nat} {xs : List Int} (h : Kd.C (Kd.int k) w A n xs) (hm : ∀ a, A = some a → w'.heap[a.block]? = w.heap[a.block]?) : Kd.C (Kd.int k) w' A n xs := by
  refine ⟨h.1, h.2.1, fun hn => ?_⟩
  obtain ⟨ad, e, hc⟩ := h.2.2 hn
  refine ⟨ad, e, fun j p hj => ?_⟩
  obtain ⟨c, h1, h2, h3⟩ := hc j p hj
  refine ⟨c, h1, h2, fun i u hu => ?_⟩
  rw [World.cell?_of_block (w := w)]
  · exact h3 i u hu
  · rw [add_block]; exact hm ad e
theorem Rdo.cut {W : World} {p : Nat} {xs : List Int} {F : Nat → Prop} {A : Option Addr} {c : Nat} (hb : W.heap[p]? = some (.cells #[.slice A xs.length c, .bool false] 63 (0, 0))) (hC : Kd.C (Kd.int .u8) W A xs.length xs) (hc : xs.length ≤ c) (hF : ∀ a, A = some a → F a.block ∧ a.block ≠ p) (h8 : Bytes8 xs) (m : Nat) (hm : m ≤ xs.length) (A' : Option Addr) (hA : A' = if c = m then A else A.map (·.add (m * 1))) :
    Rdo (W.setCell ⟨p, 0, none⟩ (.slice A' (xs.length - m) (c - m))) p (xs.drop m) F ∧ Kd.C (Kd.int .u8) W A' (xs.length - m) (xs.drop m) := by
  have hC' := Kd.C_drop hC hm hc
  rw [show (Kd.int .u8).sz = 1 from rfl, ← hA, List.length_drop] at hC'
  have hF' : ∀ a, A' = some a → F a.block ∧ a.block ≠ p := by
    intro a ha
    rw [hA] at ha
    split at ha
    · exact hF a ha
    · obtain ⟨b, hb1, rfl⟩ := Option.map_eq_some_iff.1 ha
      rw [add_block]; exact hF b hb1
  refine ⟨⟨A', c - m, ?_, ?_, ?_, hF', fun x hx => h8 x (List.mem_of_mem_drop hx)⟩, hC'⟩
  · rw [List.length_drop]
    exact blk_put hb 0 _ rfl
  · rw [List.length_drop]
    exact C_move hC' (fun a ha => Below.heap_setCell W _ _ _ (hF' a ha).2)
  · rw [List.length_drop]; omega
theorem must_yes' (b : Bool) (W : World) (h : b = true) : Calls Try.prog 38 #[.bool b] W fun e w' => e = .returned (.tuple #[]) ∧ w' = W := h ▸ must_yes W
theorem must_no' (b : Bool) (W : World) (h : b = false) : Calls Try.prog 38 #[.bool b] W fun e w' => e = .panicked [stop] ∧ w' = W := h ▸ must_no W
def NumPost (p : Nat) (xs : List Int) (W : World) (F : Nat → Prop) (e : Ending) (w' : World) : Prop :=
  Keeps (fun k => k = p) W w' ∧ match numD xs with
    | some (n, r) => e = .returned (.int .u64 (n : Int)) ∧ Rdo w' p r F
    | none => e = .panicked [stop] ∧ ∃ r, Rdo w' p r F
theorem infoU8 : Try.prog.info? 5 = some ((Try.prog.info? 5).get (by kernel_rfl)) ∧ ((Try.prog.info? 5).get (by kernel_rfl)).size = 1 := ⟨by kernel_rfl, by kernel_rfl⟩
theorem byte_cell {W : World} {A : Option Addr} {x : Int} {r : List Int} (h : Kd.C (Kd.int .u8) W A (x :: r).length (x :: r)) : ∃ a, A = some a ∧ W.cell? a = some (.int .u8 x) := by
  obtain ⟨ad, e, hc⟩ := h.2.2 (by simp)
  obtain ⟨c, h1, h2, h3⟩ := hc 0 x rfl
  have hk : c = [.int .u8 x] := h2
  subst hk
  refine ⟨ad, e, ?_⟩
  have := h3 0 _ rfl
  simpa [Addr.add] using this
theorem or_next (n k i : Nat) (hn : n < 2 ^ (7 * i)) (hi : i < 9 ∨ (i = 9 ∧ k % 128 ≤ 1)) : bits .or .u64 (n : Int) (IntKind.u64.wrap ((k : Int) % 128 * 2 ^ (7 * i))) = ((n + k % 128 * 2 ^ (7 * i) : Nat) : Int) := by
  have e : ((k : Int) % 128 * 2 ^ (7 * i)) = ((k % 128 * 2 ^ (7 * i) : Nat) : Int) := by simp
  have hk : k % 128 < 128 := Nat.mod_lt _ (by decide)
  have hb : n + k % 128 * 2 ^ (7 * i) < 18446744073709551616 := by
    rcases hi with h | ⟨rfl, h⟩
    · have h1 : 2 ^ (7 * i) ≤ 2 ^ 56 := Nat.pow_le_pow_right (by decide) (by omega)
      have h2 : k % 128 * 2 ^ (7 * i) ≤ 127 * 2 ^ (7 * i) := Nat.mul_le_mul_right _ (by omega)
      have h3 : (2 : Nat) ^ 56 = 72057594037927936 := by decide
      omega
    · have h1 : k % 128 * 2 ^ (7 * 9) ≤ 1 * 2 ^ (7 * 9) := Nat.mul_le_mul_right _ h
      have h3 : (2 : Nat) ^ (7 * 9) = 9223372036854775808 := by decide
      rw [h3] at h1 hn ⊢
      omega
  rw [e, IntKind.wrap_u64, Int.emod_eq_of_lt (by omega) (by omega)]
  exact or_shift n (k % 128) (7 * i) hn hb
theorem next_lt (n k i : Nat) (hn : n < 2 ^ (7 * i)) : n + k % 128 * 2 ^ (7 * i) < 2 ^ (7 * (i + 1)) := by
  rw [pow7]
  have hk : k % 128 < 128 := Nat.mod_lt _ (by decide)
  have h2 : k % 128 * 2 ^ (7 * i) ≤ 127 * 2 ^ (7 * i) := Nat.mul_le_mul_right _ (by omega)
  omega
theorem numGo_ret {i n k : Nat} {r : List Int} (hi : i < 9 ∨ (i = 9 ∧ k ≤ 1)) (hk : k < 128) (hz : k ≠ 0 ∨ i = 0) : numGo i n ((k : Int) :: r) = some (n + k % 128 * 2 ^ (7 * i), r) := by
  rw [numGo, if_pos ⟨by omega, by omega⟩, if_pos (by omega), if_pos (by omega), Int.toNat_natCast, Nat.mod_eq_of_lt hk]
theorem numGo_bad {i n k : Nat} {r : List Int} (h : (i = 9 ∧ 1 < k) ∨ (k = 0 ∧ i ≠ 0)) : numGo i n ((k : Int) :: r) = none := by
  rw [numGo]
  split
  · rcases h with h | h
    · omega
    · rw [if_pos (by omega), if_neg (by omega)]
  · rfl
theorem numGo_next {i n k : Nat} {r : List Int} (hi : i < 9) (hk : 128 ≤ k) (hk2 : k < 256) : numGo i n ((k : Int) :: r) = numGo (i + 1) (n + k % 128 * 2 ^ (7 * i)) r := by
  rw [numGo, if_pos ⟨by omega, by omega⟩, if_neg (by omega), Int.toNat_natCast, show k - 128 = k % 128 by omega]
theorem num_ret {p : Nat} {xs r : List Int} {W w' : World} {F : Nat → Prop} {n : Nat} {m : Int} (hk : Keeps (fun k => k = p) W w') (h : numD xs = some (n, r)) (hR : Rdo w' p r F) (hm : m = (n : Int)) : NumPost p xs W F (.returned (.int .u64 m)) w' := by
  subst hm
  refine ⟨hk, ?_⟩
  rw [h]
  exact ⟨rfl, hR⟩
theorem num_bad {p : Nat} {xs r : List Int} {W w' : World} {F : Nat → Prop} (hk : Keeps (fun k => k = p) W w') (h : numD xs = none) (hR : Rdo w' p r F) : NumPost p xs W F (.panicked [stop]) w' := by
  refine ⟨hk, ?_⟩
  rw [h]
  exact ⟨rfl, r, hR⟩
set_option maxHeartbeats 4000000 in
set_option maxRecDepth 100000 in
theorem num_calls (p : Nat) (xs : List Int) (W : World) (F : Nat → Prop) (hR : Rdo W p xs F) : Calls Try.prog 34 #[.pointer (some ⟨p, 0, none⟩)] W (NumPost p xs W F) := by
  have HR := Lib.hid hR
  clear hR
  go_enter Try.func34, Try.ntmps34
  go_wp2
  go_loopw [3, 4] (fun v3 v4 wr => ∃ (i n : Nat) (ys : List Int), i ≤ 9 ∧ v4 = .int .i64 i ∧ v3 = .int .u64 n ∧ Aside0 (n < 2 ^ (7 * i)) ∧ Aside0 (numGo i n ys = numD xs) ∧ Aside0 (Rdo wr p ys F) ∧ Aside0 (Keeps (fun k => k = p) W wr)) (fun _ v4 _ => 10 - (intOf v4).toNat)
  case atStart => exact ⟨0, 0, xs, by omega, rfl, rfl, ⟨by decide⟩, ⟨rfl⟩, ⟨HR.out⟩, ⟨Keeps.refl _ _⟩⟩
  case round =>
    clear HR
    obtain ⟨i, n, ys, hi, rfl, rfl, HN, HG, HR, HW⟩ := hrel
    obtain ⟨A, c, hb, hC, hc, hF, h8⟩ := HR.out
    have hp0 : wr.cell? ⟨p, 0, none⟩ = some (.slice A ys.length c) := blk_cell hb 0
    have hz0 := blk_frozen hb 0
    cases ys with
    | nil =>
      have HG0 := Lib.hid (by rw [← HG.out]; rfl : numD xs = none)
      have HRR := Aside0.mk HR.out
      clear hb hC hF h8
      go_wp2_with fail
      with_reducible refine (must_no _).mono ?_
      rintro e w' ⟨rfl, rfl⟩
      go_wp2
      simp only [bodyPost]
      exact ⟨trivial, num_bad HW.out HG0.out HRR.out⟩
    | cons x r =>
      obtain ⟨a, rfl, hx⟩ := byte_cell hC
      obtain ⟨A', hA⟩ : ∃ A', A' = if c = 1 then some a else (some a : Option Addr).map (·.add (1 * 1)) := ⟨_, rfl⟩
      have hsl := cut_from (P := Try.prog) 22 5 .i64 Try.underlying22 infoU8.1 1 infoU8.2 (some a) (r.length + 1) c 1 (by omega) (by omega)
      rw [show (1 : Int).toNat = 1 from rfl, ← hA, Nat.add_sub_cancel] at hsl
      have hnx := (Rdo.cut hb hC hc hF h8 1 (by simp) A' hA).1
      have hx8 := h8 x List.mem_cons_self
      obtain ⟨k, hk, rfl⟩ : ∃ k : Nat, k < 256 ∧ x = (k : Int) := ⟨x.toNat, by omega, by omega⟩
      have HNX := Aside0.mk hnx
      have hne : a.block ≠ p := (hF a rfl).2
      have htop := byte_top k hk
      have hlow := byte_low k hk
      clear hb hC hF h8 hA hnx hx8
      by_cases h9 : i < 9
      · by_cases hk1 : k < 128
        · rw [if_pos hk1] at htop
          by_cases hz : k = 0 ∧ i ≠ 0
          · obtain ⟨rfl, hi0⟩ := hz
            have HB := Lib.hid (HG.out.symm.trans (numGo_bad (.inr ⟨rfl, hi0⟩)))
            go_wp2_with fail
            with_reducible refine (must_yes' _ _ (by simp <;> omega)).mono ?_
            rintro e w' ⟨rfl, rfl⟩
            go_wp2_with fail
            with_reducible refine (must_yes' _ _ (by simp <;> omega)).mono ?_
            rintro e w' ⟨rfl, rfl⟩
            go_wp2_with fail
            with_reducible refine (must_no' _ _ (by simp <;> omega)).mono ?_
            rintro e w' ⟨rfl, rfl⟩
            go_wp2
            simp only [bodyPost]
            exact ⟨trivial, num_bad (HW.out.setCell (.inl rfl) _) HB.out HNX.out⟩
          · have HB := Lib.hid (HG.out.symm.trans (numGo_ret (.inl h9) hk1 (by omega)))
            have HO := Lib.hid (or_next n k i HN.out (.inl h9))
            by_cases hk0 : k = 0
            · have hi0 : i = 0 := by omega
              subst hk0 hi0
              go_wp2_with fail
              with_reducible refine (must_yes' _ _ (by simp <;> omega)).mono ?_
              rintro e w' ⟨rfl, rfl⟩
              go_wp2_with fail
              with_reducible refine (must_yes' _ _ (by simp <;> omega)).mono ?_
              rintro e w' ⟨rfl, rfl⟩
              go_wp2_with fail
              with_reducible refine (must_yes' _ _ (by simp <;> omega)).mono ?_
              rintro e w' ⟨rfl, rfl⟩
              go_wp2
              go_ret
              exact num_ret (HW.out.setCell (.inl rfl) _) HB.out HNX.out (by have h0 := HO.out; simp at h0 ⊢; exact h0)
            · go_wp2_with fail
              with_reducible refine (must_yes' _ _ (by simp <;> omega)).mono ?_
              rintro e w' ⟨rfl, rfl⟩
              go_wp2_with fail
              with_reducible refine (must_yes' _ _ (by simp <;> omega)).mono ?_
              rintro e w' ⟨rfl, rfl⟩
              go_wp2_with fail
              with_reducible refine (must_yes' _ _ (by simp <;> omega)).mono ?_
              rintro e w' ⟨rfl, rfl⟩
              go_wp2
              go_ret
              exact num_ret (HW.out.setCell (.inl rfl) _) HB.out HNX.out (by first | exact HO.out | (rw [← HO.out, show (k : Int) % 128 = (k : Int) by omega]))
        · rw [if_neg hk1] at htop
          have HB := Lib.hid (numGo_next (n := n) (r := r) h9 (by omega : 128 ≤ k) hk)
          have HO := Lib.hid (or_next n k i HN.out (.inl h9))
          have HL := Lib.hid (next_lt n k i HN.out)
          go_wp2_with fail
          with_reducible refine (must_yes' _ _ (by simp <;> omega)).mono ?_
          rintro e w' ⟨rfl, rfl⟩
          go_wp2_with fail
          with_reducible refine (must_yes' _ _ (by simp <;> omega)).mono ?_
          rintro e w' ⟨rfl, rfl⟩
          go_wp2_with fail
          go_roundw
          case rel => exact ⟨i + 1, _, r, by omega, by go_num, by rw [HO.out], ⟨HL.out⟩, ⟨by rw [← HB.out]; exact HG.out⟩, HNX, ⟨HW.out.setCell (.inl rfl) _⟩⟩
          case measure => simp [intOf]; omega
      · have hi9 : i = 9 := by omega
        subst hi9
        by_cases hk1 : k ≤ 1
        · rw [if_pos (by omega)] at htop
          by_cases hz : k = 0
          · subst hz
            have HB := Lib.hid (HG.out.symm.trans (numGo_bad (.inr ⟨rfl, by omega⟩)))
            go_wp2_with fail
            with_reducible refine (must_yes' _ _ (by simp <;> omega)).mono ?_
            rintro e w' ⟨rfl, rfl⟩
            go_wp2_with fail
            with_reducible refine (must_yes' _ _ (by simp <;> omega)).mono ?_
            rintro e w' ⟨rfl, rfl⟩
            go_wp2_with fail
            with_reducible refine (must_no' _ _ (by simp <;> omega)).mono ?_
            rintro e w' ⟨rfl, rfl⟩
            go_wp2
            simp only [bodyPost]
            exact ⟨trivial, num_bad (HW.out.setCell (.inl rfl) _) HB.out HNX.out⟩
          · have hk11 : k = 1 := by omega
            subst hk11
            have HB := Lib.hid (HG.out.symm.trans (numGo_ret (.inr ⟨rfl, by omega⟩) (by omega) (by omega)))
            have HO := Lib.hid (or_next n 1 9 HN.out (.inr ⟨rfl, by omega⟩))
            go_wp2_with fail
            with_reducible refine (must_yes' _ _ (by simp <;> omega)).mono ?_
            rintro e w' ⟨rfl, rfl⟩
            go_wp2_with fail
            with_reducible refine (must_yes' _ _ (by simp <;> omega)).mono ?_
            rintro e w' ⟨rfl, rfl⟩
            go_wp2_with fail
            with_reducible refine (must_yes' _ _ (by simp <;> omega)).mono ?_
            rintro e w' ⟨rfl, rfl⟩
            go_wp2
            go_ret
            exact num_ret (HW.out.setCell (.inl rfl) _) HB.out HNX.out (by first | exact HO.out | (rw [← HO.out]; rfl))
        · have HB := Lib.hid (HG.out.symm.trans (numGo_bad (.inl ⟨rfl, by omega⟩)))
          go_wp2_with fail
          with_reducible refine (must_yes' _ _ (by simp <;> omega)).mono ?_
          rintro e w' ⟨rfl, rfl⟩
          go_wp2_with fail
          with_reducible refine (must_no' _ _ (by simp <;> omega)).mono ?_
          rintro e w' ⟨rfl, rfl⟩
          go_wp2
          simp only [bodyPost]
          exact ⟨trivial, num_bad (HW.out.setCell (.inl rfl) _) HB.out HNX.out⟩
end Go.Proofs.Ythbapljhhglamaa.Code
