/-
  No cell of these rows narrows 'for every input' (looked for: loops, veiled, ifaces, maps, wideKeys, modest, calm, conditions, laid).
  DERIVED. THE GIVEN ROWS OF THIS SEAT. 4 by the template 'for every input the law returns true; each argument reads behind the call as it read before'; 0 by the template 'total and deterministic' (their statements: YtefijfanjekchaaTotals.lean).
  GIVEN WITH THE SEED: the statements are not yours to turn. If you find one false, say at which input.
  Laid BY PROGRAM, IN A SANDBOX (cutbox-rows.mjs): the forced cells as the released guide's own fill.sh prints them over the translation 7ad4b4bda37dd318… (all of the seat's roots in one cut). By AI agents, Wed Nov 11 2026. No macro, syntax, notation, axiom, sorry.
-/
import Derived.Test.YtefijfanjekchaaChecked
import GoSem.Claim
import GoSem.ClaimJoined
import GoSem.ClaimMapViews
import Derived.JoinedTies
import Derived.KernelRfl
namespace Go.Proofs.Ytefijfanjekchaa
/- THE CELL 'sum', in the pinned program and in every row, IS THE sha256 OF THE DUMP (.gsa) THAT YtefijfanjekchaaProg.lean LOADS. Nothing in Lean hashes anything: it is a label: what it is worth is what the hold of that sum in a sandbox is worth. -/
noncomputable def Try.pinned : Pinned := { name := "ytefijfanjekchaa", sum := "7ad4b4bda37dd31847d1f98acf4563de0696c50381996fde3ce324b5aed9aa9b", checked := Try.checked }
namespace Rows
def none {H : Type} : Left H := { results := [], args := [] }

/-- 'ambrylaw15.VaryNames': WHATEVER THE INPUT: true; the input reads as it did. -/
def varyNamesSpec : ChangeSpec := { name := "varyNames", fn := fun _ => fun
  | [d1, d2, d3] => { results := [.lit (.bool true)], args := [d1, d2, d3] }
  | _ => none }
def varyNamesRow : OpenClaim := { program := "ytefijfanjekchaa", sum := "7ad4b4bda37dd31847d1f98acf4563de0696c50381996fde3ce324b5aed9aa9b", func := "ambry/ambrylaw15.VaryNames", spec := "varyNames", inPlace := ["internal/bytealg.abigen_runtime_cmpstring", "internal/abi.NoEscape", "internal/bytealg.MakeNoZero"], unfollowed := true, recurses := true, apart := false }
def VaryNamesSaid : Prop := varyNamesRow.holds Try.pinned (OpenSpec.ofChange varyNamesSpec)

/-- ITS FALSE NEIGHBOUR: 'it returns false'. Refute it at one input. -/
def varyNamesWrong : ChangeSpec := { name := "varyNames", fn := fun _ => fun
  | [d1, d2, d3] => { results := [.lit (.bool false)], args := [d1, d2, d3] }
  | _ => none }
def VaryNamesWrongFalsely : Prop := varyNamesRow.holds Try.pinned (OpenSpec.ofChange varyNamesWrong)

/-- 'ambrylaw15.VaryBlanks': WHATEVER THE INPUT: true; the input reads as it did. -/
def varyBlanksSpec : ChangeSpec := { name := "varyBlanks", fn := fun _ => fun
  | [d1, d2] => { results := [.lit (.bool true)], args := [d1, d2] }
  | _ => none }
def varyBlanksRow : OpenClaim := { program := "ytefijfanjekchaa", sum := "7ad4b4bda37dd31847d1f98acf4563de0696c50381996fde3ce324b5aed9aa9b", func := "ambry/ambrylaw15.VaryBlanks", spec := "varyBlanks", inPlace := ["internal/bytealg.abigen_runtime_cmpstring", "internal/abi.NoEscape", "internal/bytealg.MakeNoZero"], unfollowed := true, recurses := true, apart := false }
def VaryBlanksSaid : Prop := varyBlanksRow.holds Try.pinned (OpenSpec.ofChange varyBlanksSpec)

/-- ITS FALSE NEIGHBOUR: 'it returns false'. Refute it at one input. -/
def varyBlanksWrong : ChangeSpec := { name := "varyBlanks", fn := fun _ => fun
  | [d1, d2] => { results := [.lit (.bool false)], args := [d1, d2] }
  | _ => none }
def VaryBlanksWrongFalsely : Prop := varyBlanksRow.holds Try.pinned (OpenSpec.ofChange varyBlanksWrong)

/-- 'ambrylaw15.VaryMatches': WHATEVER THE INPUT: true; the input reads as it did. -/
def varyMatchesSpec : ChangeSpec := { name := "varyMatches", fn := fun _ => fun
  | [d1, d2, d3] => { results := [.lit (.bool true)], args := [d1, d2, d3] }
  | _ => none }
def varyMatchesRow : OpenClaim := { program := "ytefijfanjekchaa", sum := "7ad4b4bda37dd31847d1f98acf4563de0696c50381996fde3ce324b5aed9aa9b", func := "ambry/ambrylaw15.VaryMatches", spec := "varyMatches", inPlace := ["internal/bytealg.abigen_runtime_cmpstring", "internal/abi.NoEscape", "internal/bytealg.MakeNoZero"], unfollowed := true, recurses := true, apart := false }
def VaryMatchesSaid : Prop := varyMatchesRow.holds Try.pinned (OpenSpec.ofChange varyMatchesSpec)

/-- ITS FALSE NEIGHBOUR: 'it returns false'. Refute it at one input. -/
def varyMatchesWrong : ChangeSpec := { name := "varyMatches", fn := fun _ => fun
  | [d1, d2, d3] => { results := [.lit (.bool false)], args := [d1, d2, d3] }
  | _ => none }
def VaryMatchesWrongFalsely : Prop := varyMatchesRow.holds Try.pinned (OpenSpec.ofChange varyMatchesWrong)

/-- 'ambrylaw15.VaryStar': WHATEVER THE INPUT: true; the input reads as it did. -/
def varyStarSpec : ChangeSpec := { name := "varyStar", fn := fun _ => fun
  | [d1, d2, d3, d4] => { results := [.lit (.bool true)], args := [d1, d2, d3, d4] }
  | _ => none }
def varyStarRow : OpenClaim := { program := "ytefijfanjekchaa", sum := "7ad4b4bda37dd31847d1f98acf4563de0696c50381996fde3ce324b5aed9aa9b", func := "ambry/ambrylaw15.VaryStar", spec := "varyStar", inPlace := ["internal/bytealg.abigen_runtime_cmpstring", "internal/abi.NoEscape", "internal/bytealg.MakeNoZero"], unfollowed := true, recurses := true, apart := false }
def VaryStarSaid : Prop := varyStarRow.holds Try.pinned (OpenSpec.ofChange varyStarSpec)

/-- ITS FALSE NEIGHBOUR: 'it returns false'. Refute it at one input. -/
def varyStarWrong : ChangeSpec := { name := "varyStar", fn := fun _ => fun
  | [d1, d2, d3, d4] => { results := [.lit (.bool false)], args := [d1, d2, d3, d4] }
  | _ => none }
def VaryStarWrongFalsely : Prop := varyStarRow.holds Try.pinned (OpenSpec.ofChange varyStarWrong)

/- THE SECOND FORM. 'bulk': how many values and letters a reading holds, each counted each time it is reached (what is shared counts as often as it is met; a slice's spare places count too). A statement '..UptoSaid' is the law's where the arguments, and the package variables that the reading takes, are together of bulk at most 1048576: NARROWER than '..Said'. Prove '..Said' where nothing that the law and all that it calls make is longer than what came in: it says more and counts as full. Else prove '..UptoSaid'. A law counts once. -/
mutual
def uptoBulk {H : Type} : DataW H → Nat
  | .lit (.string bytes) => bytes.length + 1
  | .lit _ => 1
  | .nil => 1
  | .ptr d => uptoBulk d + 1
  | .slice elems spare => uptoBulkAll elems + uptoBulkAll spare + 1
  | .agg parts => uptoBulkAll parts + 1
  | .iface _ d => uptoBulk d + 1
  | .map entries => uptoBulkEntries entries + 1
  | .held _ => 1
def uptoBulkAll {H : Type} : List (DataW H) → Nat
  | [] => 0
  | d :: r => uptoBulk d + uptoBulkAll r
def uptoBulkEntries {H : Type} : List (Lit × DataW H) → Nat
  | [] => 0
  | x :: r => uptoBulkEntry x + uptoBulkEntries r
def uptoBulkEntry {H : Type} : Lit × DataW H → Nat
  | (.string bytes, d) => bytes.length + uptoBulk d + 1
  | (_, d) => uptoBulk d + 1
 end
def uptoSmall : (H : Type) → List (DataW H) → Bool := fun _ ds => decide (uptoBulkAll ds ≤ 1048576)
def OpenSpec.upto (s : _root_.Go.ChangeSpec) : _root_.Go.OpenSpec := { _root_.Go.OpenSpec.ofChange s with cond := some uptoSmall }

/-- 'ambrylaw15.VaryNames', WHERE WHAT IT READS IS OF BULK AT MOST 1048576: true; the input reads as it did. -/
def varyNamesUptoRow : OpenClaim := { program := "ytefijfanjekchaa", sum := "7ad4b4bda37dd31847d1f98acf4563de0696c50381996fde3ce324b5aed9aa9b", func := "ambry/ambrylaw15.VaryNames", spec := "varyNames", inPlace := ["internal/bytealg.abigen_runtime_cmpstring", "internal/abi.NoEscape", "internal/bytealg.MakeNoZero"], unfollowed := true, recurses := true, apart := false, narrowed := true }
def VaryNamesUptoSaid : Prop := varyNamesUptoRow.holds Try.pinned (OpenSpec.upto varyNamesSpec)

/-- 'ambrylaw15.VaryBlanks', WHERE WHAT IT READS IS OF BULK AT MOST 1048576: true; the input reads as it did. -/
def varyBlanksUptoRow : OpenClaim := { program := "ytefijfanjekchaa", sum := "7ad4b4bda37dd31847d1f98acf4563de0696c50381996fde3ce324b5aed9aa9b", func := "ambry/ambrylaw15.VaryBlanks", spec := "varyBlanks", inPlace := ["internal/bytealg.abigen_runtime_cmpstring", "internal/abi.NoEscape", "internal/bytealg.MakeNoZero"], unfollowed := true, recurses := true, apart := false, narrowed := true }
def VaryBlanksUptoSaid : Prop := varyBlanksUptoRow.holds Try.pinned (OpenSpec.upto varyBlanksSpec)

/-- 'ambrylaw15.VaryMatches', WHERE WHAT IT READS IS OF BULK AT MOST 1048576: true; the input reads as it did. -/
def varyMatchesUptoRow : OpenClaim := { program := "ytefijfanjekchaa", sum := "7ad4b4bda37dd31847d1f98acf4563de0696c50381996fde3ce324b5aed9aa9b", func := "ambry/ambrylaw15.VaryMatches", spec := "varyMatches", inPlace := ["internal/bytealg.abigen_runtime_cmpstring", "internal/abi.NoEscape", "internal/bytealg.MakeNoZero"], unfollowed := true, recurses := true, apart := false, narrowed := true }
def VaryMatchesUptoSaid : Prop := varyMatchesUptoRow.holds Try.pinned (OpenSpec.upto varyMatchesSpec)

/-- 'ambrylaw15.VaryStar', WHERE WHAT IT READS IS OF BULK AT MOST 1048576: true; the input reads as it did. -/
def varyStarUptoRow : OpenClaim := { program := "ytefijfanjekchaa", sum := "7ad4b4bda37dd31847d1f98acf4563de0696c50381996fde3ce324b5aed9aa9b", func := "ambry/ambrylaw15.VaryStar", spec := "varyStar", inPlace := ["internal/bytealg.abigen_runtime_cmpstring", "internal/abi.NoEscape", "internal/bytealg.MakeNoZero"], unfollowed := true, recurses := true, apart := false, narrowed := true }
def VaryStarUptoSaid : Prop := varyStarUptoRow.holds Try.pinned (OpenSpec.upto varyStarSpec)

end Rows
end Go.Proofs.Ytefijfanjekchaa
