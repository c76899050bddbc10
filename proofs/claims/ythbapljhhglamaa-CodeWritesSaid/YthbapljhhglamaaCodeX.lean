/- The document's reader beside other things. -/
import Derived.Test.YthbapljhhglamaaCodeU
import Derived.Test.YthbapljhhglamaaPlainA
set_option linter.unusedVariables false
set_option linter.unusedSimpArgs false
namespace Go.Proofs.Ythbapljhhglamaa.Code
open Go.RowKit Go.Proofs.Ythbapljhhglamaa.G Go.Proofs.YthbapljhhglamaaW.PrintWords Go.Proofs.YthbapljhhglamaaW.PrintMore Go.Proofs.Ythbapljhhglamaa.Foot Go.Proofs.Ythbapljhhglamaa.CodeL Go.Proofs.Ythbapljhhglamaa.Leaf Go.Proofs.Ythbapljhhglamaa.Plain
section
variable {W w : World} {R : HP} {q : Nat} {st st' : Option (List Int)}
theorem Rf.out {F : Nat → Prop} (h : Rf W q st w F) : RfB W q st w ∧ F q := by
  obtain ⟨rfl, h⟩ := h
  exact ⟨h, rfl⟩
theorem rf_back {w' : World} {F : Nat → Prop} (h : Rf W q st w F) (hr : RfB W q st' w') (hk : Keeps (fun k => k = q) w w') : ∃ F', Rf W q st' w' F' ∧ (∀ k, F' k → F k ∨ w.heap.size ≤ k) ∧ Keeps F w w' := by
  obtain ⟨rfl, h⟩ := h
  exact ⟨_, ⟨rfl, hr⟩, fun k hk => .inl hk, hk⟩
theorem refnum_own [Firm R] {n : Nat} (hO : Own W w (star (Rf W q st) R)) (h : numS st = (n, st')) : Calls Try.prog 21 #[.pointer (some ⟨q, 0, none⟩)] w fun e w' => e = .returned (.int .u64 (n : Int)) ∧ Own W w' (star (Rf W q st') R) :=
  have hB := hO.below
  hO.frame fun F hp hF => (ref_num W q st w hB hp.out.1).mono fun e w' ⟨he, hr, hk⟩ => by
    rw [h] at he hr
    exact ⟨he, rf_back hp hr hk⟩
theorem rf_split {α : Type} {d : Kd α} {e : Nat} {v : Value} {l : List α} {w' : World} {F : Nat → Prop} (hp : Rf W q st w F) (hR : d.R e w' 0 (fun k => w.heap.size ≤ k) v l) (hr : RfB W q st' w') (hk : Keeps (fun k => k = q) w w') :
    ∃ F', star (row d e v l) (Rf W q st') w' F' ∧ (∀ k, F' k → F k ∨ w.heap.size ≤ k) ∧ Keeps F w w' := by
  have hlt : q < w.heap.size := Firm.lt hp q hp.out.2
  obtain ⟨rfl, h⟩ := hp
  exact ⟨_, ⟨fun k => w.heap.size ≤ k ∧ k < w'.heap.size, _, rfl, ⟨Kd.R_mono (Kd.R_bound hR) (fun k hk => ⟨hk.1, hk.2.2.1⟩), fun k hk => hk.2⟩, ⟨rfl, hr⟩, fun k a b => by subst b; omega⟩, fun k hk => hk.elim (fun h => .inr h.1) .inl, hk⟩
theorem reftext_own [Firm R] {b : List Int} (hO : Own W w (star (Rf W q st) R)) (h : textS st = (b, st')) (hl : ∀ xs, st = some xs → xs.length ≤ 1000000000) :
    Calls Try.prog 22 #[.pointer (some ⟨q, 0, none⟩)] w fun e w' => ∃ A c, e = .returned (.slice A b.length c) ∧ b.length ≤ c ∧ Kd.C (Kd.int .u8) w' A b.length b ∧ Own W w' (star (row (Kd.int .u8) 5 (.slice A b.length c) b) (star (Rf W q st') R)) := by
  have hB := hO.below
  refine (hO.frameV (Post := fun v => star (row (Kd.int .u8) 5 v b) (Rf W q st')) fun F hp hF => (ref_text W q st w hB (hF q hp.out.2) hp.out.1 hl).mono fun e w' ⟨v, he, hv, hr, hk⟩ => by
    rw [h] at hv hr
    exact ⟨v, he, rf_split hp hv hr hk⟩).mono ?_
  rintro e w' ⟨v, rfl, ho⟩
  obtain ⟨A, c, rfl, hl, hC⟩ := ho.assoc.reads
  exact ⟨A, c, rfl, hl, hC, ho.assoc⟩
theorem reffields_own [Firm R] {b : List (S66)} (hO : Own W w (star (Rf W q st) R)) (h : fieldsS st = (b, st')) (hl : ∀ xs, st = some xs → xs.length ≤ 1000000000) :
    Calls Try.prog 25 #[.pointer (some ⟨q, 0, none⟩)] w fun e w' => ∃ A c, e = .returned (.slice A b.length c) ∧ b.length ≤ c ∧ Kd.C k66 w' A b.length b ∧ Own W w' (star (row k66 66 (.slice A b.length c) b) (star (Rf W q st') R)) := by
  have hB := hO.below
  refine (hO.frameV (Post := fun v => star (row k66 66 v b) (Rf W q st')) fun F hp hF => (ref_fields W q st w hB (hF q hp.out.2) hp.out.1 hl).mono fun e w' ⟨v, he, hv, hr, hk⟩ => by
    rw [h] at hv hr
    exact ⟨v, he, rf_split hp hv hr hk⟩).mono ?_
  rintro e w' ⟨v, rfl, ho⟩
  obtain ⟨A, c, rfl, hl, hC⟩ := ho.assoc.reads
  exact ⟨A, c, rfl, hl, hC, ho.assoc⟩
end
theorem fields_eq (l : List S66) (hl : l.length ≤ 1000000000) : Ev (fun k => ambryhelp_Fields.f k l l) true := by
  refine Ev.congr (fun k => ambryhelp_Fields.f.eq_1 k l l) (ev_pos rfl ?_)
  have key : ∀ d j, l.length - j = d → j ≤ l.length → Ev (fun k => ambryhelp_Fields.l0 k l l (j : Int)) true := by
    intro d
    induction d with
    | zero => exact fun j hd hj => Ev.step (fun k => ambryhelp_Fields.l0.eq_2 l l (j : Int) k) (ev_neg (by omega) (Ev.now _))
    | succ d ih =>
      intro j hd hj
      refine Ev.step (fun k => ambryhelp_Fields.l0.eq_2 l l (j : Int) k) (ev_pos (by omega) (ev_pos (by omega) (ev_pos (by omega) (ev_pos rfl (ev_pos rfl ?_)))))
      rw [wrap_succ (by omega)]; exact ih (j + 1) (by omega) (by omega)
  exact key _ 0 rfl (Nat.zero_le _)
theorem numS_len2 {st : Option (List Int)} {M : Nat} (h : ∀ xs, st = some xs → xs.length ≤ M) : ∀ xs, (numS st).2 = some xs → xs.length ≤ M := by
  intro xs hx
  cases st with
  | none => cases hx
  | some ys =>
    unfold numS at hx
    cases hn : numD ys with
    | none => simp only [hn] at hx; cases hx
    | some p =>
      obtain ⟨n, r⟩ := p
      simp only [hn] at hx
      injection hx with hx
      subst hx
      have := numD_len hn
      have := h ys rfl
      omega
theorem pairsD_len : ∀ (n : Nat) (ys : List Int) (acc l : List (List Int × List Int)) (r : List Int), pairsD n ys acc = some (l, r) → r.length ≤ ys.length ∧ l.length = acc.length + n
  | 0, ys, acc, l, r, h => by
    rw [pairsD] at h
    injection h with h
    injection h with h1 h2
    subst h1 h2
    exact ⟨Nat.le_refl _, rfl⟩
  | n + 1, ys, acc, l, r, h => by
    rw [pairsD] at h
    cases h1 : textD ys with
    | none => rw [h1] at h; cases h
    | some p =>
      obtain ⟨a, s⟩ := p
      rw [h1] at h
      simp only at h
      cases h2 : textD s with
      | none => rw [h2] at h; cases h
      | some p2 =>
        obtain ⟨b, t⟩ := p2
        rw [h2] at h
        have := pairsD_len n t _ l r h
        have := textD_len h1
        have := textD_len h2
        rw [List.length_append] at *
        simp only [List.length_cons, List.length_nil] at *
        omega
theorem fieldsS_len2 {st : Option (List Int)} {M : Nat} (h : ∀ xs, st = some xs → xs.length ≤ M) : (fieldsS st).1.length ≤ M ∧ ∀ xs, (fieldsS st).2 = some xs → xs.length ≤ M := by
  cases st with
  | none => exact ⟨Nat.zero_le _, fun xs hx => by cases hx⟩
  | some ys =>
    cases ht : fieldsD ys with
    | none => rw [fieldsS_bad ht]; exact ⟨Nat.zero_le _, fun xs hx => by cases hx⟩
    | some p =>
      obtain ⟨l, r⟩ := p
      rw [fieldsS_ok ht]
      have hy := h ys rfl
      unfold fieldsD at ht
      cases hn : numD ys with
      | none => rw [hn] at ht; cases ht
      | some nr =>
        obtain ⟨n, s⟩ := nr
        rw [hn] at ht
        simp only at ht
        split at ht
        · have h1 := pairsD_len n s [] l r ht
          have h2 := numD_len hn
          simp only [List.length_nil] at h1
          refine ⟨by rw [List.length_map]; omega, fun xs hx => ?_⟩
          injection hx with hx
          subst hx
          omega
        · cases ht
end Go.Proofs.Ythbapljhhglamaa.Code
