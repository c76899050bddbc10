/-
  DERIVED. GIVEN WITH THE SEED: THE CARDS: each row of YtgpkgfdojfnafaaDoorRows.lean that lists a variable, with what it lists TIED to the program's text (the seventh form; the later family's looks); each row that meets fmt, with fmt's text TOLD by the authors' own Lean function (tested against real Go, not proved from fmt's source: count such statements apart). THE CARD IS WHAT COUNTS. Prove the row's statement (the work); the ties are given (YtgpkgfdojfnafaaDoorTie.lean); close each card by the builder's one call (the guide's Derived/Test/ToyasCard.lean, 'card_holds'). Laid BY PROGRAM, IN A SANDBOX (cutbox-door.mjs). By AI agents, Wed Nov 11 2026. No macro, syntax, notation, axiom, sorry.
-/
import Derived.Test.YtgpkgfdojfnafaaDoorRows
import GoSem.ClaimSeven
namespace Go.Proofs.YtgpkgfdojfnafaaDoor
namespace Rows

/-- THE TIED CARD OF 'ambrylaw23.NormTells'. -/
def normTellsCard : Claim7 := { stood := { row := normTellsRow, standIns := [], harness := (true, "00980ca23575f6fd8c2f93b4c7d2713710d710645bb7bfd94e90b0310604730e"), looks := false }, kinds := [], alts := [], laidByText := true, laidKinds := [.data, .pinned], laidTests := true, laidLooks := .later }
def NormTellsCardSaid : Prop := Claim7.holds Tryd.pinned (.plain (OpenSpec.ofChange normTellsSpec)) normTellsCard

/-- THE TIED CARD OF 'ambrylaw23.NormOnce'. -/
def normOnceCard : Claim7 := { stood := { row := normOnceRow, standIns := [], harness := (true, "00980ca23575f6fd8c2f93b4c7d2713710d710645bb7bfd94e90b0310604730e"), looks := false }, kinds := [], alts := [], laidByText := true, laidKinds := [.data, .pinned], laidTests := true, laidLooks := .later }
def NormOnceCardSaid : Prop := Claim7.holds Tryd.pinned (.plain (OpenSpec.ofChange normOnceSpec)) normOnceCard

/-- THE TIED CARD OF 'ambrylaw23.NormSegments'. -/
def normSegmentsCard : Claim7 := { stood := { row := normSegmentsRow, standIns := [], harness := (true, "00980ca23575f6fd8c2f93b4c7d2713710d710645bb7bfd94e90b0310604730e"), looks := false }, kinds := [], alts := [], laidByText := true, laidKinds := [.data, .pinned], laidTests := true, laidLooks := .later }
def NormSegmentsCardSaid : Prop := Claim7.holds Tryd.pinned (.plain (OpenSpec.ofChange normSegmentsSpec)) normSegmentsCard

/-- THE TIED CARD OF 'ambrylaw23.NormBytes'. -/
def normBytesCard : Claim7 := { stood := { row := normBytesRow, standIns := [], harness := (true, "00980ca23575f6fd8c2f93b4c7d2713710d710645bb7bfd94e90b0310604730e"), looks := false }, kinds := [], alts := [], laidByText := true, laidKinds := [.data, .pinned], laidTests := true, laidLooks := .later }
def NormBytesCardSaid : Prop := Claim7.holds Tryd.pinned (.plain (OpenSpec.ofChange normBytesSpec)) normBytesCard

/-- THE SECOND FORM's CARD OF 'ambrylaw23.NormTells'. -/
def normTellsUptoCard : Claim7 := { stood := { row := normTellsUptoRow, standIns := [], harness := (true, "00980ca23575f6fd8c2f93b4c7d2713710d710645bb7bfd94e90b0310604730e"), looks := false }, kinds := [], alts := [], laidByText := true, laidKinds := [.data, .pinned], laidTests := true, laidLooks := .later }
def NormTellsUptoCardSaid : Prop := Claim7.holds Tryd.pinned (.plain (OpenSpec.upto normTellsSpec)) normTellsUptoCard

/-- THE SECOND FORM's CARD OF 'ambrylaw23.NormOnce'. -/
def normOnceUptoCard : Claim7 := { stood := { row := normOnceUptoRow, standIns := [], harness := (true, "00980ca23575f6fd8c2f93b4c7d2713710d710645bb7bfd94e90b0310604730e"), looks := false }, kinds := [], alts := [], laidByText := true, laidKinds := [.data, .pinned], laidTests := true, laidLooks := .later }
def NormOnceUptoCardSaid : Prop := Claim7.holds Tryd.pinned (.plain (OpenSpec.upto normOnceSpec)) normOnceUptoCard

/-- THE SECOND FORM's CARD OF 'ambrylaw23.NormSegments'. -/
def normSegmentsUptoCard : Claim7 := { stood := { row := normSegmentsUptoRow, standIns := [], harness := (true, "00980ca23575f6fd8c2f93b4c7d2713710d710645bb7bfd94e90b0310604730e"), looks := false }, kinds := [], alts := [], laidByText := true, laidKinds := [.data, .pinned], laidTests := true, laidLooks := .later }
def NormSegmentsUptoCardSaid : Prop := Claim7.holds Tryd.pinned (.plain (OpenSpec.upto normSegmentsSpec)) normSegmentsUptoCard

/-- THE SECOND FORM's CARD OF 'ambrylaw23.NormBytes'. -/
def normBytesUptoCard : Claim7 := { stood := { row := normBytesUptoRow, standIns := [], harness := (true, "00980ca23575f6fd8c2f93b4c7d2713710d710645bb7bfd94e90b0310604730e"), looks := false }, kinds := [], alts := [], laidByText := true, laidKinds := [.data, .pinned], laidTests := true, laidLooks := .later }
def NormBytesUptoCardSaid : Prop := Claim7.holds Tryd.pinned (.plain (OpenSpec.upto normBytesSpec)) normBytesUptoCard
end Rows
end Go.Proofs.YtgpkgfdojfnafaaDoor
