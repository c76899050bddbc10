/- Any stored fields match any request's, or don't, as the document says, and what is kept of a request matches it. -/
import Derived.Test.YtefijfanjekchaaGx0
import Derived.Test.YtefijfanjekchaaGx8
import Derived.Test.YtefijfanjekchaaPureVaryNames
set_option linter.unusedVariables false
set_option linter.unusedSimpArgs false
namespace Go.Proofs.Ytefijfanjekchaa.Pure
open Go.RowKit Go.Proofs.Ytefijfanjekchaa.G Go.Proofs.YtefijfanjekchaaW.PrintWords Go.Proofs.YtefijfanjekchaaW.PrintLast Go.Proofs.Ytefijfanjekchaa.Plain
theorem VaryMatches_ev (a : Int) (b : ByteArray) (r : List S38) (c : List Int) (p q : List S38) : Ev (fun k => ambrylaw15_VaryMatches.f k a b r c p q) true := by
  have hj : Ev (fun k => ambrylaw15_VaryMatches.j0 k p q true a b r c) true := Ev.step (fun k => ambrylaw15_VaryMatches.j0.eq_2 p q true a b r c k) (ev_pos rfl (Ev.now _))
  refine Ev.congr (fun k => ambrylaw15_VaryMatches.f.eq_1 k a b r c p q) (ev_bind known_ev (ev_pos rfl ?_))
  rcases lightR_ev a b r c with ⟨e, hr⟩ | e
  case inr => exact ev_bind e (ev_neg (by decide) hj)
  refine ev_bind e (ev_pos rfl ?_)
  rcases lightN_ev 15 (by omega) p with ⟨e2, hp⟩ | e2
  case inr => exact ev_bind e2 (ev_neg (by decide) hj)
  refine ev_bind e2 (ev_pos rfl ?_)
  rcases lightN_ev 15 (by omega) q with ⟨e3, hq⟩ | e3
  case inr => exact ev_bind e3 hj
  refine ev_bind e3 (Ev.step (fun k => ambrylaw15_VaryMatches.j0.eq_2 p q false a b r c k) (ev_neg (by decide) ?_))
  have hp' : Lt 20 p := ⟨by have := hp.1; omega, hp.2⟩
  have hps : Small p := hp'.small (by omega)
  have hqs : Small q := Lt.small (n := 15) hq (by omega)
  have hk : Small (keepP (namesP (listL r varyN)).1 p) := keep_small2 hr (by omega) hp'
  have hss := names_ss (listL r varyN)
  have hlow : ∀ m ∈ (namesP (listL r varyN)).1, ∃ s, m = lowB s := fun m hm => by obtain ⟨s, _, h⟩ := names_mem _ m hm; exact ⟨s, h⟩
  have m1 := match_keep (namesP (listL r varyN)) p p hss hlow
  have m2 := match_keep (namesP (listL r varyN)) p q hss hlow
  have m3 := match_own (namesP (listL r varyN)) p
  refine ev_bind (keep_vary hr (by omega) a b c p hps) (ev_bind (names_ref hr (by omega) a b c) (ev_bind (match_vary hr (by omega) a b c p q hps hqs) (ev_bind (match_ref hr (by omega) a b c p q hps hqs) (ev_pos (by rw [beq_self_eq_true]) ?_))))
  refine ev_bind (keep_ref hr (by omega) a b c p hps) (ev_bind (fields_eq _ hk.1) (ev_pos rfl ?_))
  refine ev_bind (match_vary hr (by omega) a b c _ p hk hps) ?_
  rw [m1, m3]
  refine ev_pos (by rw [beq_self_eq_true]) (ev_bind (match_vary hr (by omega) a b c _ q hk hqs) (ev_bind (match_vary hr (by omega) a b c p q hps hqs) (ev_ret ?_)))
  rw [m2, beq_self_eq_true]
end Go.Proofs.Ytefijfanjekchaa.Pure
