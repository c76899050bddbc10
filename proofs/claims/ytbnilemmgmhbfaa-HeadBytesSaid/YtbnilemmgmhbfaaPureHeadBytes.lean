/- Single bytes: all 256, one by one. -/
import Derived.Test.YtbnilemmgmhbfaaHx10
set_option linter.unusedVariables false
namespace Go.Proofs.Ytbnilemmgmhbfaa.Pure
open Go.RowKit Go.Proofs.Ytbnilemmgmhbfaa.H Go.Proofs.YtbnilemmgmhbfaaW.PrintWords
theorem bytes_tab : ∀ n : Fin 256, ambrylaw10_HeadBytes.f 60 (n.val : Int) = some true := by decide +kernel
theorem HeadBytes : ambrylaw10_HeadBytes.Pure := by
  intro a h
  have h2 : 0 ≤ a ∧ a ≤ 255 := by
    simp only [Lit.wf, Bool.and_eq_true, decide_eq_true_eq] at h
    have h1 : IntKind.u8.min = 0 := by decide
    have h2 : IntKind.u8.max = 255 := by decide
    omega
  obtain ⟨n, rfl⟩ : ∃ n : Fin 256, a = (n.val : Int) := ⟨⟨a.toNat, by omega⟩, by simp; omega⟩
  exact ⟨60, bytes_tab n⟩
end Go.Proofs.Ytbnilemmgmhbfaa.Pure
