/- The contract of AclReads. -/
import Derived.Test.YtjliebggdphmpaaPureAclReads
set_option linter.unusedVariables false
namespace Go.Proofs.Ytjliebggdphmpaa.Walk
open Go.RowKit Go.Proofs.Ytjliebggdphmpaa.G Go.Proofs.YtjliebggdphmpaaW.PrintWords Go.Proofs.YtjliebggdphmpaaW.PrintLast
theorem AclReads (W : World) (s : ByteArray) (b : Bool) (m h p : ByteArray) {G : Prop} (g0 : G) :
    Calls Try.prog 3 #[.string s, .agg #[.bool b, .string m, .string h, .string p]] W fun e w' => e = .returned (.bool true) ∧ Below W.heap.size W w' := by
  obtain ⟨k, hk⟩ := (Pure.AclReads_ev s b m h p).rounds
  exact ambrylaw26_AclReads.calls k s b m h p true W hk rfl
end Go.Proofs.Ytjliebggdphmpaa.Walk
