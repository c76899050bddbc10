/- Any text's escapes, dots, whole form, host, query are the document's. -/
import Derived.Test.YtgpkgfdojfnafaaDoorNormDots
set_option linter.unusedVariables false
set_option linter.unusedSimpArgs false
namespace Go.Proofs.YtgpkgfdojfnafaaDoor.Pure
open Go.RowKit Go.Proofs.YtgpkgfdojfnafaaDoor.K Go.Proofs.YtgpkgfdojfnafaaDoorW.PrintWords Go.Proofs.YtgpkgfdojfnafaaDoorW.PrintLast Go.Proofs.YtgpkgfdojfnafaaDoor.Plain
theorem NormTells : ambrylaw23_NormTells.Pure := by
  intro s _
  refine Ev.rounds (Ev.congr (fun k => ambrylaw23_NormTells.f.eq_1 k s) (ev_bind known_ev (ev_pos rfl ?_)))
  by_cases hs : (s.size : Int) > 500
  · exact ev_pos hs (Ev.now _)
  refine ev_neg hs ?_
  refine ev_bind (esc_norm s (by omega)) (ev_bind (esc_ref s (by omega)) (ev_bind (target_norm s (by omega)) (ev_bind (target_ref s (by omega)) (ev_some (split_norm s (by omega)) (ev_bind (split_ref s (by omega)) ?_)))))
  refine ev_pos rfl (ev_pos (beq_self_eq_true _) (ev_pos rfl (ev_pos (beq_self_eq_true _) (ev_pos rfl (ev_pos rfl (ev_pos (beq_self_eq_true _) ?_))))))
  refine ev_some (dots_norm s (by omega)) (ev_bind (dots_ref s (by omega)) (ev_pos rfl ?_))
  exact ev_some (host_norm s (by omega)) (ev_some (host_ref s (by omega)) (ev_ret (beq_self_eq_true _)))
end Go.Proofs.YtgpkgfdojfnafaaDoor.Pure
