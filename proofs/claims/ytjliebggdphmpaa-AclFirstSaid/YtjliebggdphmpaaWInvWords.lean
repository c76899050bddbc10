import Derived.Test.YtjliebggdphmpaaWInv
import Derived.Test.YtjliebggdphmpaaWFootNe
namespace Go.Proofs.YtjliebggdphmpaaW.PrintWords
open Go.RowKit
end Go.Proofs.YtjliebggdphmpaaW.PrintWords
namespace Go.Proofs.YtjliebggdphmpaaW.PrintLast
section
variable {ops : Array Oper} {a : Act} {o og : Oper} {g : Nat} {t : Tmp} {u : Bool}
end
end Go.Proofs.YtjliebggdphmpaaW.PrintLast
