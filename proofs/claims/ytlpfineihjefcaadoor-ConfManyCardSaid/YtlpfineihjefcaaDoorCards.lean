/-
  DERIVED. GIVEN WITH THE SEED: THE CARDS: each row of YtlpfineihjefcaaDoorRows.lean that lists a variable, with what it lists TIED to the program's text (the seventh form; the later family's looks); each row that meets fmt, with fmt's text TOLD by the authors' own Lean function (tested against real Go, not proved from fmt's source: count such statements apart). THE CARD IS WHAT COUNTS. Prove the row's statement (the work); the ties are given (YtlpfineihjefcaaDoorTie.lean); close each card by the builder's one call (the guide's Derived/Test/ToyasCard.lean, 'card_holds'). Laid BY PROGRAM, IN A SANDBOX (cutbox-door.mjs). By AI agents, Wed Nov 11 2026. No macro, syntax, notation, axiom, sorry.
-/
import Derived.Test.YtlpfineihjefcaaDoorRows
import GoSem.ClaimSeven
namespace Go.Proofs.YtlpfineihjefcaaDoor
namespace Rows

/-- THE TIED CARD OF 'ambrylaw29.ConfMany'. -/
def confManyCard : Claim7 := { stood := { row := confManyRow, standIns := [], harness := (true, "910d80703b10ef8fb8ab9749dbd9b16dc1b8725b68311d1d0cf1418af25a1258"), looks := true }, kinds := [], alts := [], laidByText := true, laidKinds := [.data, .pinned], laidTests := true, laidLooks := .later }
def ConfManyCardSaid : Prop := Claim7.holds Tryd.pinned (.plain (OpenSpec.ofChange confManySpec)) confManyCard

/-- THE TIED CARD OF 'ambrylaw29.ConfGreat'. -/
def confGreatCard : Claim7 := { stood := { row := confGreatRow, standIns := [], harness := (true, "910d80703b10ef8fb8ab9749dbd9b16dc1b8725b68311d1d0cf1418af25a1258"), looks := true }, kinds := [], alts := [], laidByText := true, laidKinds := [.data, .pinned], laidTests := true, laidLooks := .later }
def ConfGreatCardSaid : Prop := Claim7.holds Tryd.pinned (.plain (OpenSpec.ofChange confGreatSpec)) confGreatCard

/-- THE SECOND FORM's CARD OF 'ambrylaw29.ConfMany'. -/
def confManyUptoCard : Claim7 := { stood := { row := confManyUptoRow, standIns := [], harness := (true, "910d80703b10ef8fb8ab9749dbd9b16dc1b8725b68311d1d0cf1418af25a1258"), looks := true }, kinds := [], alts := [], laidByText := true, laidKinds := [.data, .pinned], laidTests := true, laidLooks := .later }
def ConfManyUptoCardSaid : Prop := Claim7.holds Tryd.pinned (.plain (OpenSpec.upto confManySpec)) confManyUptoCard

/-- THE SECOND FORM's CARD OF 'ambrylaw29.ConfGreat'. -/
def confGreatUptoCard : Claim7 := { stood := { row := confGreatUptoRow, standIns := [], harness := (true, "910d80703b10ef8fb8ab9749dbd9b16dc1b8725b68311d1d0cf1418af25a1258"), looks := true }, kinds := [], alts := [], laidByText := true, laidKinds := [.data, .pinned], laidTests := true, laidLooks := .later }
def ConfGreatUptoCardSaid : Prop := Claim7.holds Tryd.pinned (.plain (OpenSpec.upto confGreatSpec)) confGreatUptoCard
end Rows
end Go.Proofs.YtlpfineihjefcaaDoor
