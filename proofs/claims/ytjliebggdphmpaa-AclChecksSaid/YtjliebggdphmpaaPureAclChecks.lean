/- Any rules let any request in, or not, by just the rule that the document says. -/
import Derived.Test.YtjliebggdphmpaaAclPlain
import Derived.Test.YtjliebggdphmpaaGx13
set_option linter.unusedVariables false
set_option linter.unusedSimpArgs false
namespace Go.Proofs.Ytjliebggdphmpaa.Pure
open Go.RowKit Go.Proofs.Ytjliebggdphmpaa.G Go.Proofs.YtjliebggdphmpaaW.PrintWords Go.Proofs.YtjliebggdphmpaaW.PrintLast Go.Proofs.Ytjliebggdphmpaa.Plain
theorem known_tab : ambrylaw26_known.f 3000 = some true := by decide +kernel
theorem known_ev : Ev (fun k => ambrylaw26_known.f k) true := Ev.of (fun k => ambrylaw26_known.mono k) known_tab
theorem AclChecks_ev (l : List S23) (m t : ByteArray) (q : List S72) (b : List Int) : Ev (fun k => ambrylaw26_AclChecks.f k l m t q b) true := by
  refine Ev.congr (fun k => ambrylaw26_AclChecks.f.eq_1 k l m t q b) (ev_bind known_ev (ev_pos rfl ?_))
  have hj : Ev (fun k => ambrylaw26_AclChecks.j0 k l true m t q b) true := Ev.step (fun k => ambrylaw26_AclChecks.j0.eq_2 l true m t q b k) (ev_pos rfl (Ev.now _))
  rcases rulesA l with ⟨e, hl⟩ | e
  case inr => exact ev_bind e (ev_neg (by decide) hj)
  refine ev_bind e (ev_pos rfl ?_)
  rcases lightQA m t q b with ⟨e2, hm, ht, hq⟩ | e2
  case inr => exact ev_bind e2 hj
  refine ev_bind e2 (Ev.step (fun k => ambrylaw26_AclChecks.j0.eq_2 l (!true) m t q b k) (ev_neg (by decide) ?_))
  refine ev_bind (check_acl l m t q b (by omega) (by omega) (by omega) hq) (ev_bind (check_refA l m t q b (by omega) (by omega) (by omega) hq) ?_)
  exact ev_pos (beq_self_eq_true _) (ev_ret (beq_self_eq_true _))
end Go.Proofs.Ytjliebggdphmpaa.Pure
