/- The contract of HeadBack. -/
import Derived.Test.YtbnilemmgmhbfaaPureHeadBack
set_option linter.unusedVariables false
namespace Go.Proofs.Ytbnilemmgmhbfaa.Walk
open Go.RowKit Go.Proofs.Ytbnilemmgmhbfaa.H Go.Proofs.YtbnilemmgmhbfaaW.PrintWords Go.Proofs.YtbnilemmgmhbfaaW.PrintLast
theorem HeadBack (W : World) (A0 : Option Addr) (c0 : Nat) (l0 : List S39) (hr0 : Kd.C k39 W A0 l0.length l0) (hc0 : l0.length ≤ c0) (g0 : ∀ x ∈ l0, x.f0.size ≤ 9223372036854775807 ∧ x.f1.size ≤ 9223372036854775807) :
    Calls Try.prog 5 #[.slice A0 l0.length c0] W fun e w' => e = .returned (.bool true) ∧ Below W.heap.size W w' := by
  obtain ⟨k, hk⟩ := (Pure.HeadBack_ev l0).rounds
  exact ambrylaw10_HeadBack.calls k A0 c0 l0 true W hr0 hc0 hk
end Go.Proofs.Ytbnilemmgmhbfaa.Walk
