-- PRINTED by print.py (a twelfth state) out of the translation. Not trusted: Lean checks it.
import Derived.Test.YteebckekahnjiaaDoorProg
import Derived.Below
import Derived.Deep.Draws
import Derived.Deep.AppendLies
import Derived.Maps.AppendAt
import Derived.OwnWalk
import Derived.Laws.BytesArg
import Derived.Laws.MakeOwn
import Derived.Laws.OwnMore
import Derived.Deep.OwnRows
import Derived.Tactics
import Derived.Lib.ConvBytes
import Derived.Laws.Slices
import Derived.WalkKit
import Derived.KernelRfl
import Derived.RowKit3
import Derived.Deep.LoopGhost
import Derived.Deep.QuietTactic
import Derived.BigQuiet
import Derived.WideLaws
import Derived.Deep.DeepCutAuto
import Derived.Deep.CutBlock
import Derived.Deep.RegionHeld3
import Derived.Laws.Rows
import Derived.Lib.AppendStr
import Derived.ArgAppend
import Derived.Laws.IdiomCopy
import Derived.OrdersHeld
import Derived.Laws.BitsLemmas
import Derived.RowKit
import Derived.Test.YteebckekahnjiaaDoorWWords
import Derived.Test.YteebckekahnjiaaDoorWLast
import Derived.Test.YteebckekahnjiaaDoorWTab
import Derived.Test.YteebckekahnjiaaDoorWFour
import Derived.Test.YteebckekahnjiaaDoorWQPut
import Derived.Test.YteebckekahnjiaaDoorWApart
import Derived.Test.YteebckekahnjiaaDoorWArr
import Derived.Test.YteebckekahnjiaaDoorWZeros
import Derived.Test.YteebckekahnjiaaDoorWFoot
import Derived.Test.YteebckekahnjiaaDoorWKept
import Derived.Test.YteebckekahnjiaaDoorWShare
import Derived.Test.YteebckekahnjiaaDoorWN
import Derived.Test.YteebckekahnjiaaDoorWFootNe
import Derived.Test.YteebckekahnjiaaDoorWAt
import Derived.Test.YteebckekahnjiaaDoorWEqStruct
import Derived.Test.YteebckekahnjiaaDoorWRepsOne
import Derived.Test.YteebckekahnjiaaDoorWInv
import Derived.Test.YteebckekahnjiaaDoorWInvWords
import Derived.Test.YteebckekahnjiaaDoorWGuard
import Derived.Test.YteebckekahnjiaaDoorWNEv
import Derived.Test.YteebckekahnjiaaDoorWMore
namespace Go.Proofs.YteebckekahnjiaaDoor.G
open Go.RowKit Go.Proofs.YteebckekahnjiaaDoorW.PrintWords Go.Proofs.YteebckekahnjiaaDoorW.PrintLast Go.Proofs.YteebckekahnjiaaDoorW.PrintMore
attribute [local go_sem] max2_int min2_int max_two min_two max_three min_three max_four min_four   -- for this text's walks alone
set_option linter.unusedVariables false
set_option linter.unusedSimpArgs false



def errW : Option Int → Value
  | none => .nilIface
  | some c => .iface 0 (.int .i64 c)
theorem errW_none : errW none = .nilIface := rfl
theorem errW_some (c : Int) : errW (some c) = .iface 0 (.int .i64 c) := rfl

theorem info9 : (Tryd.prog.info? 9).map (fun i => (i.zero, i.size, i.bytes)) = some (some (.string ⟨#[]⟩), 1, 16) := by kernel_rfl
-- the values' own types

end Go.Proofs.YteebckekahnjiaaDoor.G
