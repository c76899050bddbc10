/- Parts: what may be written, and the document's writing. -/
import Derived.Test.YthbapljhhglamaaCodeX
import Derived.Test.YthbapljhhglamaaGx2
set_option linter.unusedVariables false
set_option linter.unusedSimpArgs false
namespace Go.Proofs.Ythbapljhhglamaa.Code
open Go.RowKit Go.Proofs.Ythbapljhhglamaa.G Go.Proofs.YthbapljhhglamaaW.PrintWords Go.Proofs.YthbapljhhglamaaW.PrintMore Go.Proofs.Ythbapljhhglamaa.Foot Go.Proofs.Ythbapljhhglamaa.CodeL Go.Proofs.Ythbapljhhglamaa.Leaf Go.Proofs.Ythbapljhhglamaa.Plain

theorem up (n : Nat) {P : Nat → Prop} (h : ∀ j, j ≤ n → (j < n → P (j + 1)) → P j) : ∀ j, j ≤ n → P j := by
  have key : ∀ d j, n - j = d → j ≤ n → P j := by
    intro d
    induction d with
    | zero => exact fun j hd hj => h j hj (fun hlt => by omega)
    | succ d ih => exact fun j hd hj => h j hj (fun hlt => ih (j + 1) (by omega) (by omega))
  exact fun j hj => key _ j rfl hj
theorem rd66 (l : List (S66)) (j : Nat) : rd_T66 l (j : Int) = l.getD j z66 := rfl
theorem rd53 (l : List (S53)) (j : Nat) : rd_T53 l (j : Int) = l.getD j z53 := rfl
theorem lightN_ev (m : Nat) (hm : m ≤ 1000000) (l : List S66) : (Ev (fun k => ambryhelp_Light.f k l (m : Int)) true ∧ l.length ≤ m ∧ ∀ x ∈ l, x.f0.size ≤ 300 ∧ x.f1.size ≤ 300) ∨ Ev (fun k => ambryhelp_Light.f k l (m : Int)) false := by
  by_cases h : (l.length : Int) > (m : Int)
  · exact .inr (Ev.congr (fun k => ambryhelp_Light.f.eq_1 k l (m : Int)) (ev_pos h (Ev.now _)))
  have key : ∀ j, j ≤ l.length → (Ev (fun k => ambryhelp_Light.l0 k l (j : Int)) true ∧ ∀ x ∈ l.drop j, x.f0.size ≤ 300 ∧ x.f1.size ≤ 300) ∨ Ev (fun k => ambryhelp_Light.l0 k l (j : Int)) false := by
    refine up _ fun j hj ih => ?_
    by_cases hlt : j < l.length
    · rw [drop_cons l z66 hlt]
      by_cases h1 : (((l.getD j z66).f0).size : Int) > 300
      · refine .inr (Ev.step (fun k => ambryhelp_Light.l0.eq_2 l (j : Int) k) (ev_pos (by omega) (ev_pos (by omega) ?_)))
        rw [rd66]; exact ev_pos h1 (Ev.now _)
      by_cases h2 : (((l.getD j z66).f1).size : Int) > 300
      · refine .inr (Ev.step (fun k => ambryhelp_Light.l0.eq_2 l (j : Int) k) (ev_pos (by omega) (ev_pos (by omega) ?_)))
        rw [rd66]; exact ev_neg h1 (ev_pos h2 (Ev.now _))
      have hstep : ∀ r, Ev (fun k => ambryhelp_Light.l0 k l ((j + 1 : Nat) : Int)) r → Ev (fun k => ambryhelp_Light.l0 k l (j : Int)) r := fun r hr => by
        refine Ev.step (fun k => ambryhelp_Light.l0.eq_2 l (j : Int) k) (ev_pos (by omega) (ev_pos (by omega) ?_))
        rw [rd66, wrap_succ (by omega)]; exact ev_neg h1 (ev_neg h2 hr)
      rcases ih hlt with ⟨e, ha⟩ | e
      · refine .inl ⟨hstep _ e, fun x hx => ?_⟩
        rcases List.mem_cons.1 hx with rfl | hx
        · omega
        · exact ha x hx
      · exact .inr (hstep _ e)
    · refine .inl ⟨Ev.step (fun k => ambryhelp_Light.l0.eq_2 l (j : Int) k) (ev_neg (by omega) (Ev.now _)), fun x hx => ?_⟩
      rw [List.drop_of_length_le (by omega)] at hx; cases hx
  rcases key 0 (Nat.zero_le _) with ⟨e, ha⟩ | e
  · exact .inl ⟨Ev.congr (fun k => ambryhelp_Light.f.eq_1 k l (m : Int)) (ev_neg h e), by omega, ha⟩
  · exact .inr (Ev.congr (fun k => ambryhelp_Light.f.eq_1 k l (m : Int)) (ev_neg h e))
def Fits (x : S53) : Prop := x.f2.length ≤ 200 ∧ x.f3.length ≤ 6 ∧ ∀ y ∈ x.f3, y.f0.size ≤ 300 ∧ y.f1.size ≤ 300
theorem law_light (l : List S53) : (Ev (fun k => ambrylaw2_light.f k l) true ∧ l.length ≤ 20 ∧ ∀ x ∈ l, Fits x) ∨ Ev (fun k => ambrylaw2_light.f k l) false := by
  by_cases h : (l.length : Int) > 20
  · exact .inr (Ev.congr (fun k => ambrylaw2_light.f.eq_1 k l) (ev_pos h (Ev.now _)))
  have key : ∀ j, j ≤ l.length → (Ev (fun k => ambrylaw2_light.l0 k l (j : Int)) true ∧ ∀ x ∈ l.drop j, Fits x) ∨ Ev (fun k => ambrylaw2_light.l0 k l (j : Int)) false := by
    refine up _ fun j hj ih => ?_
    by_cases hlt : j < l.length
    · rw [drop_cons l z53 hlt]
      by_cases h1 : (((l.getD j z53).f2).length : Int) > 200
      · refine .inr (Ev.step (fun k => ambrylaw2_light.l0.eq_2 l (j : Int) k) (ev_pos (by omega) (ev_pos (by omega) ?_)))
        rw [rd53]; exact ev_pos h1 (Ev.now _)
      rcases lightN_ev 6 (by decide) (l.getD j z53).f3 with ⟨e6, h6, h6x⟩ | e6
      · have hstep : ∀ r, Ev (fun k => ambrylaw2_light.l0 k l ((j + 1 : Nat) : Int)) r → Ev (fun k => ambrylaw2_light.l0 k l (j : Int)) r := fun r hr => by
          refine Ev.step (fun k => ambrylaw2_light.l0.eq_2 l (j : Int) k) (ev_pos (by omega) (ev_pos (by omega) ?_))
          rw [rd53, wrap_succ (by omega)]; exact ev_neg h1 (ev_bind e6 (ev_pos rfl hr))
        rcases ih hlt with ⟨e, ha⟩ | e
        · refine .inl ⟨hstep _ e, fun x hx => ?_⟩
          rcases List.mem_cons.1 hx with rfl | hx
          · exact ⟨by omega, h6, h6x⟩
          · exact ha x hx
        · exact .inr (hstep _ e)
      · refine .inr (Ev.step (fun k => ambrylaw2_light.l0.eq_2 l (j : Int) k) (ev_pos (by omega) (ev_pos (by omega) ?_)))
        rw [rd53]; exact ev_neg h1 (ev_bind e6 (ev_neg (by decide) (Ev.now _)))
    · refine .inl ⟨Ev.step (fun k => ambrylaw2_light.l0.eq_2 l (j : Int) k) (ev_neg (by omega) (Ev.now _)), fun x hx => ?_⟩
      rw [List.drop_of_length_le (by omega)] at hx; cases hx
  rcases key 0 (Nat.zero_le _) with ⟨e, ha⟩ | e
  · exact .inl ⟨Ev.congr (fun k => ambrylaw2_light.f.eq_1 k l) (ev_neg h e), by omega, ha⟩
  · exact .inr (Ev.congr (fun k => ambrylaw2_light.f.eq_1 k l) (ev_neg h e))
/-! The document's numbers and texts. -/
theorem refnum_ev : ∀ (n : Nat) (l : List Int), l.length + (enc n).length < 140737488355328 → Ev (fun k => ambryref1_Num.l0 k l (n : Int)) (l ++ enc n) := by
  intro n
  induction n using Nat.strongRecOn with
  | _ n ih =>
    intro l hl
    by_cases h : n < 128
    · rw [enc_small h] at hl ⊢
      simp only [List.length_cons, List.length_nil] at hl
      refine Ev.step (fun k => ambryref1_Num.l0.eq_2 l (n : Int) k) (ev_neg (by omega) (ev_pos (by omega) (ev_ret ?_)))
      rw [show (n : Int) % 256 = (n : Int) by omega]
    · rw [enc_great h] at hl ⊢
      simp only [List.length_cons] at hl
      refine Ev.step (fun k => ambryref1_Num.l0.eq_2 l (n : Int) k) (ev_pos (by omega) (ev_pos (by omega) ?_))
      rw [byte_more, show (n : Int) / 128 = ((n / 128 : Nat) : Int) by omega]
      refine ev_eq (ih (n / 128) (by omega) _ (by rw [List.length_append]; simp only [List.length_cons, List.length_nil]; omega)) ?_
      rw [List.append_assoc]; rfl
theorem reftext_ev (l b : List Int) (hb : b.length ≤ 1000000) (hl : l.length ≤ 1000000000) : Ev (fun k => ambryref1_Text.f k l b) (l ++ encT b) := by
  have he := enc_len10 (n := b.length) (by omega)
  refine Ev.congr (fun k => ambryref1_Text.f.eq_1 k l b) ?_
  have hw : IntKind.u64.wrap (b.length : Int) = (b.length : Int) := by rw [IntKind.wrap_u64]; omega
  rw [hw]
  refine ev_bind (a := l ++ enc b.length) (Ev.congr (fun k => ambryref1_Num.f.eq_1 k l _) (refnum_ev b.length l (by omega))) (ev_pos (by rw [List.length_append]; omega) (ev_ret ?_))
  unfold encT
  rw [List.append_assoc]
/-- A world without memory. -/
def bare (w : World) : World := { w with heap := #[] }
theorem bare_below (w : World) : Below (bare w).heap.size (bare w) w := ⟨rfl, rfl, rfl, Nat.zero_le _, fun k hk => absurd hk (Nat.not_lt_zero k)⟩
section
variable {W w : World} {R : HP} {v : Value} {l : List Int}
theorem kept_keeps {F : Nat → Prop} {w' : World} (hb : Below (bare w).heap.size (bare w) w') (hk : Kept w w' F) : Keeps F w w' := ⟨hb.os, hb.tape, hb.output, hk.1, hk.2⟩
theorem rnum_own [Firm R] (n : Nat) (hO : Own W w (star (row (Kd.int .u8) 5 v l) R)) (hn : n < 18446744073709551616) (hl : l.length ≤ 1000000000) :
    Calls Try.prog 27 #[v, .int .u64 (n : Int)] w fun e w' => ∃ v', e = .returned v' ∧ Own W w' (star (row (Kd.int .u8) 5 v' (l ++ enc n)) R) := by
  have he := enc_len10 (n := n) (by omega)
  obtain ⟨k, hk⟩ := (refnum_ev n l (by omega)).rounds
  refine hO.frameV (Post := fun v' => row (Kd.int .u8) 5 v' (l ++ enc n)) fun F hp hF => (ambryref1_Num.calls k F v l (n : Int) (l ++ enc n) (bare w) w (bare_below w) hp.1 hk).mono ?_
  rintro e w' ⟨v', rfl, hR, hB, hK⟩
  exact ⟨v', rfl, fun k => (F k ∨ w.heap.size ≤ k) ∧ k < w'.heap.size, ⟨Kd.R_mono (Kd.R_bound hR) (fun k hk => ⟨hk.1, hk.2.2.1⟩), fun k hk => hk.2⟩, fun k hk => hk.1, kept_keeps hB hK⟩
end
end Go.Proofs.Ythbapljhhglamaa.Code
