/- The contract of VaryMatches. -/
import Derived.Test.YtefijfanjekchaaGx0
import Derived.Test.YtefijfanjekchaaGx8
import Derived.Test.YtefijfanjekchaaPureVaryMatches
set_option linter.unusedVariables false
namespace Go.Proofs.Ytefijfanjekchaa.Walk
open Go.RowKit Go.Proofs.Ytefijfanjekchaa.G Go.Proofs.YtefijfanjekchaaW.PrintWords Go.Proofs.YtefijfanjekchaaW.PrintLast
theorem VaryMatches (W : World) (a : Int) (b : ByteArray) (A2 : Option Addr) (c2 : Nat) (l2 : List S38) (A3 : Option Addr) (c3 : Nat) (l3 : List Int) (A1 : Option Addr) (c1 : Nat) (l1 : List S38) (A4 : Option Addr) (c4 : Nat) (l4 : List S38)
    (hr2 : Kd.C k38 W A2 l2.length l2) (hc2 : l2.length ≤ c2) (hr3 : Kd.C (Kd.int .u8) W A3 l3.length l3) (hc3 : l3.length ≤ c3) (hr1 : Kd.C k38 W A1 l1.length l1) (hc1 : l1.length ≤ c1) {G : Prop} (g1 : G) (hr4 : Kd.C k38 W A4 l4.length l4) (hc4 : l4.length ≤ c4) {G2 : Prop} (g2 : G2) :
    Calls Try.prog 5 #[.agg #[.int .i64 a, .string b, .slice A2 l2.length c2, .slice A3 l3.length c3], .slice A1 l1.length c1, .slice A4 l4.length c4] W fun e w' => e = .returned (.bool true) ∧ Below W.heap.size W w' := by
  obtain ⟨k, hk⟩ := (Pure.VaryMatches_ev a b l2 l3 l1 l4).rounds
  exact ambrylaw15_VaryMatches.calls k a b A2 c2 l2 A3 c3 l3 A1 c1 l1 A4 c4 l4 true W hr2 hc2 hr3 hc3 hr1 hc1 hr4 hc4 hk rfl
end Go.Proofs.Ytefijfanjekchaa.Walk
