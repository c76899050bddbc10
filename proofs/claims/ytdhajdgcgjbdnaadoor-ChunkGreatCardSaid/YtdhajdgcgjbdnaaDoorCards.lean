/-
  DERIVED. GIVEN WITH THE SEED: THE CARDS: each row of YtdhajdgcgjbdnaaDoorRows.lean that lists a variable, with what it lists TIED to the program's text (the seventh form; the later family's looks); each row that meets fmt, with fmt's text TOLD by the authors' own Lean function (tested against real Go, not proved from fmt's source: count such statements apart). THE CARD IS WHAT COUNTS. Prove the row's statement (the work); the ties are given (YtdhajdgcgjbdnaaDoorTie.lean); close each card by the builder's one call (the guide's Derived/Test/ToyasCard.lean, 'card_holds'). Laid BY PROGRAM, IN A SANDBOX (cutbox-door.mjs). By AI agents, Wed Nov 11 2026. No macro, syntax, notation, axiom, sorry.
-/
import Derived.Test.YtdhajdgcgjbdnaaDoorRows
import GoSem.ClaimSeven
namespace Go.Proofs.YtdhajdgcgjbdnaaDoor
namespace Rows

/-- THE TIED CARD OF 'ambrylaw11.ChunkBack'. -/
def chunkBackCard : Claim7 := { stood := { row := chunkBackRow, standIns := [], harness := (true, "696b07718f6ad3fafd4a61b3e1b80f474d665ced114c34072096e7136f7ef27b"), looks := true }, kinds := [], alts := [], laidByText := true, laidKinds := [.data, .data, .data], laidTests := true, laidLooks := .later }
def ChunkBackCardSaid : Prop := Claim7.holds Tryd.pinned (.plain (OpenSpec.ofChange chunkBackSpec)) chunkBackCard

/-- THE TIED CARD OF 'ambrylaw11.ChunkCuts'. -/
def chunkCutsCard : Claim7 := { stood := { row := chunkCutsRow, standIns := [], harness := (true, "696b07718f6ad3fafd4a61b3e1b80f474d665ced114c34072096e7136f7ef27b"), looks := true }, kinds := [], alts := [], laidByText := true, laidKinds := [.data, .data, .data], laidTests := true, laidLooks := .later }
def ChunkCutsCardSaid : Prop := Claim7.holds Tryd.pinned (.plain (OpenSpec.ofChange chunkCutsSpec)) chunkCutsCard

/-- THE TIED CARD OF 'ambrylaw11.ChunkGreat'. -/
def chunkGreatCard : Claim7 := { stood := { row := chunkGreatRow, standIns := [], harness := (true, "696b07718f6ad3fafd4a61b3e1b80f474d665ced114c34072096e7136f7ef27b"), looks := true }, kinds := [], alts := [], laidByText := true, laidKinds := [.data, .data, .data], laidTests := true, laidLooks := .later }
def ChunkGreatCardSaid : Prop := Claim7.holds Tryd.pinned (.plain (OpenSpec.ofChange chunkGreatSpec)) chunkGreatCard

/-- THE TIED CARD OF 'ambrylaw11.ChunkLines'. -/
def chunkLinesCard : Claim7 := { stood := { row := chunkLinesRow, standIns := [], harness := (true, "696b07718f6ad3fafd4a61b3e1b80f474d665ced114c34072096e7136f7ef27b"), looks := true }, kinds := [], alts := [], laidByText := true, laidKinds := [.data, .data, .data], laidTests := true, laidLooks := .later }
def ChunkLinesCardSaid : Prop := Claim7.holds Tryd.pinned (.plain (OpenSpec.ofChange chunkLinesSpec)) chunkLinesCard

/-- THE TIED CARD OF 'ambrylaw11.ChunkMany'. -/
def chunkManyCard : Claim7 := { stood := { row := chunkManyRow, standIns := [], harness := (true, "696b07718f6ad3fafd4a61b3e1b80f474d665ced114c34072096e7136f7ef27b"), looks := true }, kinds := [], alts := [], laidByText := true, laidKinds := [.data, .data, .data], laidTests := true, laidLooks := .later }
def ChunkManyCardSaid : Prop := Claim7.holds Tryd.pinned (.plain (OpenSpec.ofChange chunkManySpec)) chunkManyCard

/-- THE SECOND FORM's CARD OF 'ambrylaw11.ChunkBack'. -/
def chunkBackUptoCard : Claim7 := { stood := { row := chunkBackUptoRow, standIns := [], harness := (true, "696b07718f6ad3fafd4a61b3e1b80f474d665ced114c34072096e7136f7ef27b"), looks := true }, kinds := [], alts := [], laidByText := true, laidKinds := [.data, .data, .data], laidTests := true, laidLooks := .later }
def ChunkBackUptoCardSaid : Prop := Claim7.holds Tryd.pinned (.plain (OpenSpec.upto chunkBackSpec)) chunkBackUptoCard

/-- THE SECOND FORM's CARD OF 'ambrylaw11.ChunkCuts'. -/
def chunkCutsUptoCard : Claim7 := { stood := { row := chunkCutsUptoRow, standIns := [], harness := (true, "696b07718f6ad3fafd4a61b3e1b80f474d665ced114c34072096e7136f7ef27b"), looks := true }, kinds := [], alts := [], laidByText := true, laidKinds := [.data, .data, .data], laidTests := true, laidLooks := .later }
def ChunkCutsUptoCardSaid : Prop := Claim7.holds Tryd.pinned (.plain (OpenSpec.upto chunkCutsSpec)) chunkCutsUptoCard

/-- THE SECOND FORM's CARD OF 'ambrylaw11.ChunkGreat'. -/
def chunkGreatUptoCard : Claim7 := { stood := { row := chunkGreatUptoRow, standIns := [], harness := (true, "696b07718f6ad3fafd4a61b3e1b80f474d665ced114c34072096e7136f7ef27b"), looks := true }, kinds := [], alts := [], laidByText := true, laidKinds := [.data, .data, .data], laidTests := true, laidLooks := .later }
def ChunkGreatUptoCardSaid : Prop := Claim7.holds Tryd.pinned (.plain (OpenSpec.upto chunkGreatSpec)) chunkGreatUptoCard

/-- THE SECOND FORM's CARD OF 'ambrylaw11.ChunkLines'. -/
def chunkLinesUptoCard : Claim7 := { stood := { row := chunkLinesUptoRow, standIns := [], harness := (true, "696b07718f6ad3fafd4a61b3e1b80f474d665ced114c34072096e7136f7ef27b"), looks := true }, kinds := [], alts := [], laidByText := true, laidKinds := [.data, .data, .data], laidTests := true, laidLooks := .later }
def ChunkLinesUptoCardSaid : Prop := Claim7.holds Tryd.pinned (.plain (OpenSpec.upto chunkLinesSpec)) chunkLinesUptoCard

/-- THE SECOND FORM's CARD OF 'ambrylaw11.ChunkMany'. -/
def chunkManyUptoCard : Claim7 := { stood := { row := chunkManyUptoRow, standIns := [], harness := (true, "696b07718f6ad3fafd4a61b3e1b80f474d665ced114c34072096e7136f7ef27b"), looks := true }, kinds := [], alts := [], laidByText := true, laidKinds := [.data, .data, .data], laidTests := true, laidLooks := .later }
def ChunkManyUptoCardSaid : Prop := Claim7.holds Tryd.pinned (.plain (OpenSpec.upto chunkManySpec)) chunkManyUptoCard
end Rows
end Go.Proofs.YtdhajdgcgjbdnaaDoor
