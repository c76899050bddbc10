/- The contract of HeadLists. -/
import Derived.Test.YtbnilemmgmhbfaaPureHeadLists
import Derived.OpenShut
set_option linter.unusedVariables false
namespace Go.Proofs.Ytbnilemmgmhbfaa.Walk
open Go.RowKit Go.Proofs.Ytbnilemmgmhbfaa.H Go.Proofs.YtbnilemmgmhbfaaW.PrintWords Go.Proofs.YtbnilemmgmhbfaaW.PrintLast
theorem HeadLists (W : World) (A0 : Option Addr) (c0 : Nat) (l0 : List ByteArray) (A1 : Option Addr) (c1 : Nat) (l1 : List Int) (hr0 : Kd.C Kd.string W A0 l0.length l0) (hc0 : l0.length ≤ c0) (g0 : ∀ x ∈ l0, x.size ≤ 9223372036854775807)
    (hr1 : Kd.C (Kd.int .u8) W A1 l1.length l1) (hc1 : l1.length ≤ c1) (g1 : ∀ x ∈ l1, (Lit.int .u8 x).wf = true) :
    Calls Try.prog 6 #[.slice A0 l0.length c0, .slice A1 l1.length c1] W fun e w' => e = .returned (.bool true) ∧ Below W.heap.size W w' := by
  obtain ⟨k, hk⟩ := (Pure.HeadLists_ev l0 l1 (fun x hx => bounds_u8 (g1 x hx))).rounds
  exact ambrylaw10_HeadLists.calls k A0 c0 l0 A1 c1 l1 true W hr0 hc0 hr1 hc1 hk
end Go.Proofs.Ytbnilemmgmhbfaa.Walk
