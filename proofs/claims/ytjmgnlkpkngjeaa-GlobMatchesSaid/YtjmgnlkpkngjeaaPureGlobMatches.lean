/- For any pattern and any text: what glob.Match, Valid and Literal tell is what the reference tells. No condition. -/
import Derived.Test.YtjmgnlkpkngjeaaGx4
import Derived.Test.YtjmgnlkpkngjeaaGlobKnown
import Derived.Test.YtjmgnlkpkngjeaaGlobRef
set_option linter.unusedVariables false
set_option linter.unusedSimpArgs false
namespace Go.Proofs.Ytjmgnlkpkngjeaa.Pure
open Go.RowKit Go.Proofs.Ytjmgnlkpkngjeaa.G Go.Proofs.YtjmgnlkpkngjeaaW.PrintWords Go.Proofs.YtjmgnlkpkngjeaaW.PrintLast Go.Proofs.Ytjmgnlkpkngjeaa.Plain

theorem GlobMatches : ambrylaw24_GlobMatches.Pure := by
  intro p s _ _
  refine Ev.rounds (g := fun k => ambrylaw24_GlobMatches.f k p s) ?_
  refine Ev.congr (fun k => ambrylaw24_GlobMatches.f.eq_1 k p s) ?_
  refine ev_bind known_ev (ev_pos rfl ?_)
  by_cases hp : (p.size : Int) > 300
  · exact ev_pos hp (Ev.step (fun k => ambrylaw24_GlobMatches.j0.eq_2 _ _ _ _) (ev_pos rfl (Ev.now _)))
  refine ev_neg hp (Ev.step (fun k => ambrylaw24_GlobMatches.j0.eq_2 _ _ _ _) ?_)
  by_cases hs : (s.size : Int) > 300
  · exact ev_pos (decide_eq_true hs) (Ev.now _)
  refine ev_neg (by simpa using hs) ?_
  refine ev_bind (match_ev p s (by omega)) (ev_bind (rmatch_ev p s (by omega)) (ev_pos (by simp) ?_))
  refine ev_bind (valid_ev p) (ev_bind (rvalid_ev p) (ev_pos rfl ?_))
  exact ev_bind (literal_ev s (by omega)) (ev_bind (rliteral_ev s (by omega)) (ev_ret (by simp)))
end Go.Proofs.Ytjmgnlkpkngjeaa.Pure
