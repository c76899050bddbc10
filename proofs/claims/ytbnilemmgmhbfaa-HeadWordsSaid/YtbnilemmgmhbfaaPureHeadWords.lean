/- Words of a field: tokens, values, alike. -/
import Derived.Test.YtbnilemmgmhbfaaHeadPlain
set_option linter.unusedVariables false
namespace Go.Proofs.Ytbnilemmgmhbfaa.Pure
open Go.RowKit Go.Proofs.Ytbnilemmgmhbfaa.H Go.Proofs.YtbnilemmgmhbfaaW.PrintWords Go.Proofs.Ytbnilemmgmhbfaa.Plain
theorem HeadWords : ambrylaw10_HeadWords.Pure := by
  intro a b ha hb
  refine Ev.rounds (g := fun k => ambrylaw10_HeadWords.f k a b) ?_
  refine Ev.congr (fun k => ambrylaw10_HeadWords.f.eq_1 k a b) (ev_bind known_ev (ev_pos rfl ?_))
  have hj : Ev (fun k => ambrylaw10_HeadWords.j0 k a b true) true := Ev.step (fun k => ambrylaw10_HeadWords.j0.eq_2 a b true k) (ev_pos rfl (Ev.now _))
  by_cases h1 : (a.size : Int) > 300
  · exact ev_pos h1 hj
  refine ev_neg h1 ?_
  by_cases h2 : (b.size : Int) > 300
  · rw [decide_eq_true h2]; exact hj
  rw [decide_eq_false h2]
  refine Ev.step (fun k => ambrylaw10_HeadWords.j0.eq_2 a b false k) (ev_neg (by simp) ?_)
  have sa : a.size ≤ 4611686018427387904 := by omega
  have sb : b.size ≤ 4611686018427387904 := by omega
  refine ev_bind (token_head a sa) (ev_bind (token_ref a sa) (ev_pos (beq_self_eq_true _) ?_))
  refine ev_bind (value_head a sa) (ev_bind (value_ref a sa) (ev_pos (beq_self_eq_true _) ?_))
  refine ev_bind (same_head a b sa) (ev_some (same_ref a b (by omega) (by omega)) (ev_pos (beq_self_eq_true _) ?_))
  refine ev_some (low_ref a (by omega)) (ev_bind (same_head a _ sa) (ev_ret (same_low a)))
end Go.Proofs.Ytbnilemmgmhbfaa.Pure
