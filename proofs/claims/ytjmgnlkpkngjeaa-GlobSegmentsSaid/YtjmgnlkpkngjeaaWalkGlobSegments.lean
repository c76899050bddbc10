/- The contract of GlobSegments, for any two lists. -/
import Derived.Test.YtjmgnlkpkngjeaaPureGlobSegments
import Derived.OpenShut
set_option linter.unusedVariables false
namespace Go.Proofs.Ytjmgnlkpkngjeaa.Walk
open Go.RowKit Go.Proofs.Ytjmgnlkpkngjeaa.G Go.Proofs.YtjmgnlkpkngjeaaW.PrintWords Go.Proofs.YtjmgnlkpkngjeaaW.PrintLast

theorem GlobSegments (W : World) (A0 : Option Addr) (c0 : Nat) (l0 : List Int) (A1 : Option Addr) (c1 : Nat) (l1 : List Bool) (hr0 : Kd.C (Kd.int .u8) W A0 l0.length l0) (hc0 : l0.length ≤ c0) (g0 : ∀ x ∈ l0, (Lit.int .u8 x).wf = true)
    (hr1 : Kd.C Kd.bool W A1 l1.length l1) (hc1 : l1.length ≤ c1) (g1 : ∀ x ∈ l1, True) :
    Calls Try.prog 5 #[.slice A0 l0.length c0, .slice A1 l1.length c1] W fun e w' => e = .returned (.bool true) ∧ Below W.heap.size W w' := by
  obtain ⟨k, hk⟩ := Pure.GlobSegments l0 l1 (fun x hx => bounds_u8 (g0 x hx))
  exact ambrylaw24_GlobSegments.calls k A0 c0 l0 A1 c1 l1 true W hr0 hc0 hr1 hc1 hk
end Go.Proofs.Ytjmgnlkpkngjeaa.Walk
