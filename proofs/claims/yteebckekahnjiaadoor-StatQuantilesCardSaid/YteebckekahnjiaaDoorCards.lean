/-
  DERIVED. GIVEN WITH THE SEED: THE CARDS: each row of YteebckekahnjiaaDoorRows.lean that lists a variable, with what it lists TIED to the program's text (the seventh form; the later family's looks); each row that meets fmt, with fmt's text TOLD by the authors' own Lean function (tested against real Go, not proved from fmt's source: count such statements apart). THE CARD IS WHAT COUNTS. Prove the row's statement (the work); the ties are given (YteebckekahnjiaaDoorTie.lean); close each card by the builder's one call (the guide's Derived/Test/ToyasCard.lean, 'card_holds'). Laid BY PROGRAM, IN A SANDBOX (cutbox-door.mjs). By AI agents, Wed Nov 11 2026. No macro, syntax, notation, axiom, sorry.
-/
import Derived.Test.YteebckekahnjiaaDoorRows
import GoSem.ClaimSeven
namespace Go.Proofs.YteebckekahnjiaaDoor
namespace Rows

/-- THE TIED CARD OF 'ambrylaw28.StatCounts'. -/
def statCountsCard : Claim7 := { stood := { row := statCountsRow, standIns := [], harness := (true, "424bf43fa96a6a1fd0623d3a68eb33249bc359191a3510a1d6c9f1d63b8259a9"), looks := false }, kinds := [], alts := [], laidByText := true, laidKinds := [.data, .data, .data], laidTests := true, laidLooks := .later }
def StatCountsCardSaid : Prop := Claim7.holds Tryd.pinned (.plain (OpenSpec.ofChange statCountsSpec)) statCountsCard

/-- THE TIED CARD OF 'ambrylaw28.StatQuantiles'. -/
def statQuantilesCard : Claim7 := { stood := { row := statQuantilesRow, standIns := [], harness := (true, "424bf43fa96a6a1fd0623d3a68eb33249bc359191a3510a1d6c9f1d63b8259a9"), looks := false }, kinds := [], alts := [], laidByText := true, laidKinds := [.data, .data, .data], laidTests := true, laidLooks := .later }
def StatQuantilesCardSaid : Prop := Claim7.holds Tryd.pinned (.plain (OpenSpec.ofChange statQuantilesSpec)) statQuantilesCard

/-- THE TIED CARD OF 'ambrylaw28.StatMerges'. -/
def statMergesCard : Claim7 := { stood := { row := statMergesRow, standIns := [], harness := (true, "424bf43fa96a6a1fd0623d3a68eb33249bc359191a3510a1d6c9f1d63b8259a9"), looks := false }, kinds := [], alts := [], laidByText := true, laidKinds := [.data, .data, .data], laidTests := true, laidLooks := .later }
def StatMergesCardSaid : Prop := Claim7.holds Tryd.pinned (.plain (OpenSpec.ofChange statMergesSpec)) statMergesCard

/-- THE SECOND FORM's CARD OF 'ambrylaw28.StatCounts'. -/
def statCountsUptoCard : Claim7 := { stood := { row := statCountsUptoRow, standIns := [], harness := (true, "424bf43fa96a6a1fd0623d3a68eb33249bc359191a3510a1d6c9f1d63b8259a9"), looks := false }, kinds := [], alts := [], laidByText := true, laidKinds := [.data, .data, .data], laidTests := true, laidLooks := .later }
def StatCountsUptoCardSaid : Prop := Claim7.holds Tryd.pinned (.plain (OpenSpec.upto statCountsSpec)) statCountsUptoCard

/-- THE SECOND FORM's CARD OF 'ambrylaw28.StatQuantiles'. -/
def statQuantilesUptoCard : Claim7 := { stood := { row := statQuantilesUptoRow, standIns := [], harness := (true, "424bf43fa96a6a1fd0623d3a68eb33249bc359191a3510a1d6c9f1d63b8259a9"), looks := false }, kinds := [], alts := [], laidByText := true, laidKinds := [.data, .data, .data], laidTests := true, laidLooks := .later }
def StatQuantilesUptoCardSaid : Prop := Claim7.holds Tryd.pinned (.plain (OpenSpec.upto statQuantilesSpec)) statQuantilesUptoCard

/-- THE SECOND FORM's CARD OF 'ambrylaw28.StatMerges'. -/
def statMergesUptoCard : Claim7 := { stood := { row := statMergesUptoRow, standIns := [], harness := (true, "424bf43fa96a6a1fd0623d3a68eb33249bc359191a3510a1d6c9f1d63b8259a9"), looks := false }, kinds := [], alts := [], laidByText := true, laidKinds := [.data, .data, .data], laidTests := true, laidLooks := .later }
def StatMergesUptoCardSaid : Prop := Claim7.holds Tryd.pinned (.plain (OpenSpec.upto statMergesSpec)) statMergesUptoCard
end Rows
end Go.Proofs.YteebckekahnjiaaDoor
