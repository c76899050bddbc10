/- A reader: a text is read; what is tried. -/
import Derived.Test.YthbapljhhglamaaCodeR
set_option linter.unusedVariables false
set_option linter.unusedSimpArgs false
namespace Go.Proofs.Ythbapljhhglamaa.Code
open Go.RowKit Go.Proofs.Ythbapljhhglamaa.G Go.Proofs.YthbapljhhglamaaW.PrintWords Go.Proofs.YthbapljhhglamaaW.PrintMore Go.Proofs.Ythbapljhhglamaa.Foot Go.Proofs.Ythbapljhhglamaa.CodeL Go.Proofs.Ythbapljhhglamaa.Leaf

theorem cut_both {P : Program} (t e : TypeId) (k : IntKind) {i : TypeInfo} (ht : P.underlying t = some (.slice e)) (hi : P.info? e = some i) (A : Option Addr) (n c m : Nat) (hm : m ≤ n) (hc : n ≤ c) :
    ∀ W : World, (Instr.slice t (.slice A n c) none (some (.int k (m : Int))) (some (.int k (m : Int)))).run P W = .ok (.slice A m m) W := by
  intro W
  have hel : P.elem t = e := by simp [Program.elem, ht]
  have hu : P.underlying t = some (.slice (P.elem t)) := by rw [hel]; exact ht
  have ha : (A.map fun x => x.add 0) = A := by cases A <;> simp [Addr.add]
  rw [run_slice_hm W t A n c hu k k m m (by omega) (by omega) (by omega), hel]
  simp [sizeOf, typeInfo, hi, sliced, Result.andThen, ha]
def TextPost (p : Nat) (xs : List Int) (W : World) (F : Nat → Prop) (e : Ending) (w' : World) : Prop :=
  Keeps (fun k => k = p) W w' ∧ match textD xs with
    | some (b, r) => ∃ v, e = .returned v ∧ Kd.R (Kd.int .u8) 5 w' W.heap.size (fun _ => True) v b ∧ Rdo w' p r F
    | none => e = .panicked [stop] ∧ ∃ r, Rdo w' p r F
theorem Rdo.below {w w' : World} {p : Nat} {xs : List Int} {F : Nat → Prop} (h : Rdo w p xs F) (hF : ∀ k, F k → k < w.heap.size) (hb : Below w.heap.size w w') : Rdo w' p xs F := by
  obtain ⟨A, c, hb1, hC, hc, hA, h8⟩ := h
  exact ⟨A, c, blk_below hb1 hb, C_move hC (fun a ha => hb.block _ (hF _ (hA a ha).1)), hc, hA, h8⟩
theorem Rdo.keeps {w w' : World} {p : Nat} {xs : List Int} {F G : Nat → Prop} (h : Rdo w p xs F) (hp : F p) (hF : ∀ k, F k → k < w.heap.size) (hb : Keeps G w w') (hG : ∀ k, F k → ¬ G k) : Rdo w' p xs F := by
  obtain ⟨A, c, hb1, hC, hc, hA, h8⟩ := h
  exact ⟨A, c, hb.blk hb1 (hG p hp), C_move hC (fun a ha => hb.block _ (hF _ (hA a ha).1) (hG _ (hA a ha).1)), hc, hA, h8⟩
theorem R_base {α : Type} {d : Kd α} {e b : Nat} {w w' : World} {v : Value} {xs : List α} (h : d.R e w' b (fun _ => True) v xs) (hb : w.heap.size ≤ b) : d.R e w' w.heap.size (fun _ => True) v xs := Kd.R_lower h hb
set_option maxHeartbeats 4000000 in
set_option maxRecDepth 100000 in
theorem text_calls (p : Nat) (xs : List Int) (W : World) (F : Nat → Prop) (hp : F p) (hF : ∀ k, F k → k < W.heap.size) (hR : Rdo W p xs F) (hl : xs.length ≤ 1000000000) : Calls Try.prog 36 #[.pointer (some ⟨p, 0, none⟩)] W (TextPost p xs W F) := by
  have HR := Lib.hid hR
  have HF := Lib.hid hF
  have hnl : ∀ n r, numD xs = some (n, r) → r.length ≤ xs.length := by
    have key : ∀ (ys : List Int) (i a n : Nat) (r : List Int), numGo i a ys = some (n, r) → r.length ≤ ys.length := by
      intro ys
      induction ys with
      | nil => intro i a n r h; rw [numGo] at h; cases h
      | cons y ys ih =>
        intro i a n r h
        rw [numGo] at h
        split at h
        · split at h
          · split at h
            · injection h with h
              injection h with _ h
              subst h
              simp
            · cases h
          · have := ih _ _ _ _ h
            simp only [List.length_cons]
            omega
        · cases h
    exact fun n r h => key xs 0 0 n r h
  have HNL := Lib.hid hnl
  have HLL := Lib.hid hl
  clear hR hF hnl hl
  go_enter Try.func36, Try.ntmps36
  go_wp2_with fail
  refine (num_calls p xs W F HR.out).mono ?_
  rintro e w1 ⟨hk, hpost⟩
  have HK := Aside0.mk hk
  cases hn : numD xs with
  | none =>
    rw [hn] at hpost
    have HT := Lib.hid (by unfold textD; rw [hn] : textD xs = none)
    obtain ⟨rfl, r, hr⟩ := hpost
    have HR1 := Lib.hid hr
    clear hk hn hr
    go_wp2
    simp only [bodyPost]
    refine ⟨trivial, HK.out, ?_⟩
    rw [HT.out]
    exact ⟨rfl, r, HR1.out⟩
  | some nr =>
    obtain ⟨n, r⟩ := nr
    rw [hn] at hpost
    have hrl := HNL.out _ _ hn
    have hll := HLL.out
    obtain ⟨rfl, hr⟩ := hpost
    obtain ⟨A, c, hb, hC, hc, hFA, h8⟩ := hr
    have hp0 : w1.cell? ⟨p, 0, none⟩ = some (.slice A r.length c) := blk_cell hb 0
    have hz0 := blk_frozen hb 0
    have HR1 := Lib.hid (⟨A, c, hb, hC, hc, hFA, h8⟩ : Rdo w1 p r F)
    have hwr : IntKind.u64.wrap (r.length : Int) = (r.length : Int) := by rw [IntKind.wrap_u64]; omega
    by_cases hle : n ≤ r.length
    · have HT := Lib.hid (by unfold textD; rw [hn]; simp [hle] : textD xs = some (r.take n, r.drop n))
      obtain ⟨A', hA⟩ : ∃ A', A' = if c = n then A else A.map (·.add (n * 1)) := ⟨_, rfl⟩
      have hsl := cut_from (P := Try.prog) 22 5 .u64 Try.underlying22 infoU8.1 1 infoU8.2 A r.length c (n : Int) (by omega) (by omega)
      rw [Int.toNat_natCast, ← hA] at hsl
      have hsb := cut_both (P := Try.prog) 22 5 .u64 Try.underlying22 infoU8.1 A r.length c n hle hc
      have hnx := (Rdo.cut hb hC hc hFA h8 n hle A' hA).1
      have hct : Kd.C (Kd.int .u8) (w1.setCell ⟨p, 0, none⟩ (.slice A' (r.length - n) (c - n))) A n (r.take n) := by
        have h1 := Kd.C_take hC hle
        rw [List.length_take, Nat.min_eq_left hle] at h1
        exact C_move h1 (fun a ha => Below.heap_setCell w1 _ _ _ (hFA a ha).2)
      have HNX := Aside0.mk hnx
      have HCT := Lib.hid hct
      have HTL := Lib.hid (by rw [List.length_take, Nat.min_eq_left hle] : (r.take n).length = n)
      clear hk hn hb hC hc hFA h8 hA hnx hct
      go_wp2_with fail
      with_reducible refine (must_yes' _ _ (by simp <;> omega)).mono ?_
      rintro e w' ⟨rfl, rfl⟩
      go_wp2_with fail
      have hcl := clone_bytes_n A n n (r.take n) (w'.setCell ⟨p, 0, none⟩ (.slice A' (r.length - n) (c - n))) HTL.out HCT.out (by omega)
      refine hcl.mono ?_
      rintro e w3 ⟨v, rfl, hv, hB⟩
      have HV := Lib.hid hv
      have HB := Lib.hid hB
      clear hv hB hcl
      go_wp2
      go_ret
      refine ⟨?_, ?_⟩
      · exact (HK.out.setCell (.inl rfl) _).then_below HB.out
      · rw [HT.out]
        refine ⟨v, rfl, R_base HV.out ?_, HNX.out.below ?_ HB.out⟩
        · exact (HK.out.setCell (.inl rfl) (.slice A' (r.length - n) (c - n))).size
        · intro k hk
          exact Nat.lt_of_lt_of_le (HF.out k hk) (HK.out.setCell (.inl rfl) (.slice A' (r.length - n) (c - n))).size
    · have HT := Lib.hid (by unfold textD; rw [hn]; simp [hle] : textD xs = none)
      clear hk hn hb hC hc hFA h8
      go_wp2_with fail
      with_reducible refine (must_no' _ _ (by simp <;> omega)).mono ?_
      rintro e w' ⟨rfl, rfl⟩
      go_wp2
      simp only [bodyPost]
      refine ⟨trivial, HK.out, ?_⟩
      rw [HT.out]
      exact ⟨rfl, r, HR1.out⟩
end Go.Proofs.Ythbapljhhglamaa.Code
