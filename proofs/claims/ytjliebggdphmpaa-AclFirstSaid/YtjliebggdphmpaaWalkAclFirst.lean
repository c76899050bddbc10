/- The contract of AclFirst. -/
import Derived.Test.YtjliebggdphmpaaGx0
import Derived.Test.YtjliebggdphmpaaGx9
import Derived.Test.YtjliebggdphmpaaPureAclFirst
set_option linter.unusedVariables false
namespace Go.Proofs.Ytjliebggdphmpaa.Walk
open Go.RowKit Go.Proofs.Ytjliebggdphmpaa.G Go.Proofs.YtjliebggdphmpaaW.PrintWords Go.Proofs.YtjliebggdphmpaaW.PrintLast
theorem AclFirst (W : World) (A0 : Option Addr) (c0 : Nat) (l0 : List S23) (m t : ByteArray) (A2 : Option Addr) (c2 : Nat) (l2 : List S72) (A3 : Option Addr) (c3 : Nat) (l3 : List Int) (a : Bool) (hr0 : Kd.C k23 W A0 l0.length l0) (hc0 : l0.length ≤ c0)
    {G : Prop} (g0 : G) (hr2 : Kd.C k72 W A2 l2.length l2) (hc2 : l2.length ≤ c2) (hr3 : Kd.C (Kd.int .u8) W A3 l3.length l3) (hc3 : l3.length ≤ c3) :
    Calls Try.prog 5 #[.slice A0 l0.length c0, .agg #[.string m, .string t, .slice A2 l2.length c2, .slice A3 l3.length c3], .bool a] W fun e w' => e = .returned (.bool true) ∧ Below W.heap.size W w' := by
  obtain ⟨k, hk⟩ := (Pure.AclFirst_ev l0 m t l2 l3 a).rounds
  exact ambrylaw26_AclFirst.calls k A0 c0 l0 m t A2 c2 l2 A3 c3 l3 a true W hr0 hc0 hr2 hc2 hr3 hc3 hk
end Go.Proofs.Ytjliebggdphmpaa.Walk
