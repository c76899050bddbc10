/-
  DERIVED. GIVEN WITH THE SEED: THE CARDS: each row of YtdgimhaghhjdcaaDoorRows.lean that lists a variable, with what it lists TIED to the program's text (the seventh form; the later family's looks); each row that meets fmt, with fmt's text TOLD by the authors' own Lean function (tested against real Go, not proved from fmt's source: count such statements apart). THE CARD IS WHAT COUNTS. Prove the row's statement (the work); the ties are given (YtdgimhaghhjdcaaDoorTie.lean); close each card by the builder's one call (the guide's Derived/Test/ToyasCard.lean, 'card_holds'). Laid BY PROGRAM, IN A SANDBOX (cutbox-door.mjs). By AI agents, Wed Nov 11 2026. No macro, syntax, notation, axiom, sorry.
-/
import Derived.Test.YtdgimhaghhjdcaaDoorRows
import GoSem.ClaimSeven
namespace Go.Proofs.YtdgimhaghhjdcaaDoor
namespace Rows

/-- THE TIED CARD OF 'ambrylaw13.CtrlWrites'. -/
def ctrlWritesCard : Claim7 := { stood := { row := ctrlWritesRow, standIns := [], harness := (true, "db96a10ea365250b3a46c3b8aca7b65db096958db2b9b7647af5e0665e6844e9"), looks := false }, kinds := [], alts := [], laidByText := true, laidKinds := [.data, .data, .data], laidTests := true, laidLooks := .later }
def CtrlWritesCardSaid : Prop := Claim7.holds Tryd.pinned (.plain (OpenSpec.ofChange ctrlWritesSpec)) ctrlWritesCard

/-- THE TIED CARD OF 'ambrylaw13.CtrlOrder'. -/
def ctrlOrderCard : Claim7 := { stood := { row := ctrlOrderRow, standIns := [], harness := (true, "db96a10ea365250b3a46c3b8aca7b65db096958db2b9b7647af5e0665e6844e9"), looks := false }, kinds := [], alts := [], laidByText := true, laidKinds := [.data, .data, .data], laidTests := true, laidLooks := .later }
def CtrlOrderCardSaid : Prop := Claim7.holds Tryd.pinned (.plain (OpenSpec.ofChange ctrlOrderSpec)) ctrlOrderCard

/-- THE TIED CARD OF 'ambrylaw13.CtrlCase'. -/
def ctrlCaseCard : Claim7 := { stood := { row := ctrlCaseRow, standIns := [], harness := (true, "db96a10ea365250b3a46c3b8aca7b65db096958db2b9b7647af5e0665e6844e9"), looks := false }, kinds := [], alts := [], laidByText := true, laidKinds := [.data, .data, .data], laidTests := true, laidLooks := .later }
def CtrlCaseCardSaid : Prop := Claim7.holds Tryd.pinned (.plain (OpenSpec.ofChange ctrlCaseSpec)) ctrlCaseCard

/-- THE SECOND FORM's CARD OF 'ambrylaw13.CtrlWrites'. -/
def ctrlWritesUptoCard : Claim7 := { stood := { row := ctrlWritesUptoRow, standIns := [], harness := (true, "db96a10ea365250b3a46c3b8aca7b65db096958db2b9b7647af5e0665e6844e9"), looks := false }, kinds := [], alts := [], laidByText := true, laidKinds := [.data, .data, .data], laidTests := true, laidLooks := .later }
def CtrlWritesUptoCardSaid : Prop := Claim7.holds Tryd.pinned (.plain (OpenSpec.upto ctrlWritesSpec)) ctrlWritesUptoCard

/-- THE SECOND FORM's CARD OF 'ambrylaw13.CtrlOrder'. -/
def ctrlOrderUptoCard : Claim7 := { stood := { row := ctrlOrderUptoRow, standIns := [], harness := (true, "db96a10ea365250b3a46c3b8aca7b65db096958db2b9b7647af5e0665e6844e9"), looks := false }, kinds := [], alts := [], laidByText := true, laidKinds := [.data, .data, .data], laidTests := true, laidLooks := .later }
def CtrlOrderUptoCardSaid : Prop := Claim7.holds Tryd.pinned (.plain (OpenSpec.upto ctrlOrderSpec)) ctrlOrderUptoCard

/-- THE SECOND FORM's CARD OF 'ambrylaw13.CtrlCase'. -/
def ctrlCaseUptoCard : Claim7 := { stood := { row := ctrlCaseUptoRow, standIns := [], harness := (true, "db96a10ea365250b3a46c3b8aca7b65db096958db2b9b7647af5e0665e6844e9"), looks := false }, kinds := [], alts := [], laidByText := true, laidKinds := [.data, .data, .data], laidTests := true, laidLooks := .later }
def CtrlCaseUptoCardSaid : Prop := Claim7.holds Tryd.pinned (.plain (OpenSpec.upto ctrlCaseSpec)) ctrlCaseUptoCard
end Rows
end Go.Proofs.YtdgimhaghhjdcaaDoor
