/- Each byte, escaped, is told as the document says: a table of all bytes. -/
import Derived.Test.YtgpkgfdojfnafaaDoorKx10
import Derived.OpenShut
namespace Go.Proofs.YtgpkgfdojfnafaaDoor.Pure
open Go.RowKit Go.Proofs.YtgpkgfdojfnafaaDoor.K Go.Proofs.YtgpkgfdojfnafaaDoorW.PrintWords Go.Proofs.YtgpkgfdojfnafaaDoorW.PrintLast
theorem bytes_tab : ∀ (n : Fin 256) (b : Bool), ambrylaw23_NormBytes.f 60 (n.val : Int) b = some true := by decide +kernel
theorem NormBytes : ambrylaw23_NormBytes.Pure := by
  intro a0 a1 h
  have hb := bounds_u8 h
  obtain ⟨n, rfl⟩ : ∃ n : Fin 256, a0 = (n.val : Int) := ⟨⟨a0.toNat, by omega⟩, by simp; omega⟩
  exact ⟨60, bytes_tab n a1⟩
end Go.Proofs.YtgpkgfdojfnafaaDoor.Pure
