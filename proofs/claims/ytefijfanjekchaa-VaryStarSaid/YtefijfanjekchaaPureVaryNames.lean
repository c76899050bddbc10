/- Any response's names that count, and any field's normal form, are the document's. -/
import Derived.Test.YtefijfanjekchaaGx0
import Derived.Test.YtefijfanjekchaaGx2
import Derived.Test.YtefijfanjekchaaGx3
import Derived.Test.YtefijfanjekchaaGx4
import Derived.Test.YtefijfanjekchaaGx5
import Derived.Test.YtefijfanjekchaaGx6
import Derived.Test.YtefijfanjekchaaVaryM
set_option linter.unusedVariables false
set_option linter.unusedSimpArgs false
namespace Go.Proofs.Ytefijfanjekchaa.Pure
open Go.RowKit Go.Proofs.Ytefijfanjekchaa.G Go.Proofs.YtefijfanjekchaaW.PrintWords Go.Proofs.YtefijfanjekchaaW.PrintLast Go.Proofs.Ytefijfanjekchaa.Plain
theorem lightR_ev (a : Int) (b : ByteArray) (l : List S38) (c : List Int) : (Ev (fun k => ambryhelp_LightR.f k a b l c) true ∧ Lt 15 l) ∨ Ev (fun k => ambryhelp_LightR.f k a b l c) false := by
  by_cases h1 : (b.size : Int) ≤ 100
  case neg => exact .inr (Ev.congr (fun k => ambryhelp_LightR.f.eq_1 k a b l c) (ev_neg h1 (Ev.now _)))
  rcases lightN_ev 15 (by omega) l with ⟨e, h2, h3⟩ | e
  case inr => exact .inr (Ev.congr (fun k => ambryhelp_LightR.f.eq_1 k a b l c) (ev_pos h1 (ev_bind e (ev_neg (by decide) (Ev.now _)))))
  by_cases h4 : (c.length : Int) ≤ 1000
  · exact .inl ⟨Ev.congr (fun k => ambryhelp_LightR.f.eq_1 k a b l c) (ev_pos h1 (ev_bind e (ev_pos rfl (ev_ret (decide_eq_true h4))))), h2, h3⟩
  · exact .inr (Ev.congr (fun k => ambryhelp_LightR.f.eq_1 k a b l c) (ev_pos h1 (ev_bind e (ev_pos rfl (ev_ret (decide_eq_false h4))))))
theorem known_names : Ev (fun k => vary_Names.f k 0 ⟨#[]⟩ ambrylaw15_known.fs []) (ambrylaw15_known.two, false) := by
  have hs : Lt 1 ambrylaw15_known.fs := ⟨by decide, by decide⟩
  refine ev_eq (names_vary hs (by omega) _ _ _) ?_
  rw [← names_tell]
  have e := list_ref ambrylaw15_known.fs varyN (hs.small (by omega)) (by decide)
  have e2 : Ev (fun k => ambryref10_List.f k ambrylaw15_known.fs varyN) [⟨#[76, 97, 110, 103]⟩, ⟨#[65, 99, 99, 101, 112, 116]⟩, ⟨#[108, 97, 110, 103]⟩] := Ev.of (fun k => ambryref10_List.mono _ _ k) (k := 60) (by decide +kernel)
  obtain ⟨k1, h1⟩ := e
  obtain ⟨k2, h2⟩ := e2
  have h3 := (h1 (max k1 k2) (Nat.le_max_left _ _)).symm.trans (h2 (max k1 k2) (Nat.le_max_right _ _))
  rw [Option.some.inj h3]
  decide +kernel
theorem known_ok : ∃ k, ambrylaw15_known.ok k := by
  have s1 : Lt 1 ambrylaw15_known.fs := ⟨by decide, by decide⟩
  have s2 : Small ambrylaw15_known.nm := ⟨by decide, by decide⟩
  have s3 : Small ambrylaw15_known.qs := ⟨by decide, by decide⟩
  have s0 : Small ([] : List S38) := ⟨by decide, by decide⟩
  obtain ⟨k1, h1⟩ := known_names
  obtain ⟨k2, h2⟩ := norm_vary ambrylaw15_known.nm ⟨#[65]⟩ s2
  obtain ⟨k3, h3⟩ := strings_eq ambrylaw15_known.two (by decide)
  obtain ⟨k4, h4⟩ := match_vary s1 (by omega) 0 ⟨#[]⟩ [] [] [] s0 s0
  obtain ⟨k5, h5⟩ := match_vary s1 (by omega) 0 ⟨#[]⟩ [] [] ambrylaw15_known.qs s0 s3
  obtain ⟨k0, h0⟩ := names_vary s1 (by omega) 0 ⟨#[]⟩ []
  have hn : namesP (listL ambrylaw15_known.fs varyN) = (ambrylaw15_known.two, false) := by
    have := (h0 (max k0 k1) (Nat.le_max_left _ _)).symm.trans (h1 (max k0 k1) (Nat.le_max_right _ _))
    exact Option.some.inj this
  rw [hn] at h4 h5
  refine ⟨k1 + k2 + k3 + k4 + k5, h1 _ (by omega), (h2 _ (by omega)).trans ?_, h3 _ (by omega), (h4 _ (by omega)).trans ?_, (h5 _ (by omega)).trans ?_⟩
  · decide +kernel
  · decide +kernel
  · decide +kernel
theorem known_ev : Ev (fun k => ambrylaw15_known.f k) true := by
  obtain ⟨k, hk⟩ := known_ok
  exact Ev.of ambrylaw15_known.mono (k := k) (if_pos hk)
theorem VaryNames_ev (a : Int) (b : ByteArray) (r : List S38) (c : List Int) (l : List S38) (n : ByteArray) : Ev (fun k => ambrylaw15_VaryNames.f k a b r c l n) true := by
  have hj : Ev (fun k => ambrylaw15_VaryNames.j0 k l n true a b r c) true := Ev.step (fun k => ambrylaw15_VaryNames.j0.eq_2 l n true a b r c k) (ev_pos rfl (Ev.now _))
  refine Ev.congr (fun k => ambrylaw15_VaryNames.f.eq_1 k a b r c l n) (ev_bind known_ev (ev_pos rfl ?_))
  rcases lightR_ev a b r c with ⟨e, hr⟩ | e
  case inr => exact ev_bind e (ev_neg (by decide) hj)
  refine ev_bind e (ev_pos rfl ?_)
  rcases lightN_ev 20 (by omega) l with ⟨e2, hl⟩ | e2
  case inr => exact ev_bind e2 (ev_neg (by decide) hj)
  refine ev_bind e2 (ev_pos rfl ?_)
  by_cases hn : (n.size : Int) > 100
  · rw [decide_eq_true hn]; exact hj
  have hl : Small l := Lt.small (n := 20) hl (by omega)
  rw [decide_eq_false hn]
  refine Ev.step (fun k => ambrylaw15_VaryNames.j0.eq_2 l n false a b r c k) (ev_neg (by decide) ?_)
  refine ev_bind (names_vary hr (by omega) a b c) (ev_bind (names_ref hr (by omega) a b c) (ev_bind (norm_vary l n hl) (ev_bind (norm_ref l n hl (by omega)) ?_)))
  refine ev_bind (strings_eq _ (by have := (names_size hr (by omega)).1; omega)) (ev_pos rfl (ev_pos (by rw [beq_self_eq_true]) (ev_pos rfl (ev_ret (by rw [beq_self_eq_true])))))
end Go.Proofs.Ytefijfanjekchaa.Pure
