/- The contract of HeadAsks. -/
import Derived.Test.YtbnilemmgmhbfaaPureHeadAsks
set_option linter.unusedVariables false
namespace Go.Proofs.Ytbnilemmgmhbfaa.Walk
open Go.RowKit Go.Proofs.Ytbnilemmgmhbfaa.H Go.Proofs.YtbnilemmgmhbfaaW.PrintWords Go.Proofs.YtbnilemmgmhbfaaW.PrintLast
theorem HeadAsks (W : World) (A0 : Option Addr) (c0 : Nat) (l0 : List S39) (a1 a2 : ByteArray) (hr0 : Kd.C k39 W A0 l0.length l0) (hc0 : l0.length ≤ c0) (g0 : ∀ x ∈ l0, x.f0.size ≤ 9223372036854775807 ∧ x.f1.size ≤ 9223372036854775807)
    (w1 : a1.size ≤ 140737488351232) (w2 : a2.size ≤ 140737488351232) :
    Calls Try.prog 8 #[.slice A0 l0.length c0, .string a1, .string a2] W fun e w' => e = .returned (.bool true) ∧ Below W.heap.size W w' := by
  obtain ⟨k, hk⟩ := (Pure.HeadAsks_ev l0 a1 a2).rounds
  exact ambrylaw10_HeadAsks.calls k A0 c0 l0 a1 a2 true W hr0 hc0 hk
end Go.Proofs.Ytbnilemmgmhbfaa.Walk
