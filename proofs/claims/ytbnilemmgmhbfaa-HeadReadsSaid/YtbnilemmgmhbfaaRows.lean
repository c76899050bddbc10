/-
  No cell of these rows narrows 'for every input' (looked for: loops, veiled, ifaces, maps, wideKeys, modest, calm, conditions, laid).
  DERIVED. THE GIVEN ROWS OF THIS SEAT. 8 by the template 'for every input the law returns true; each argument reads behind the call as it read before'; 0 by the template 'total and deterministic' (their statements: YtbnilemmgmhbfaaTotals.lean).
  GIVEN WITH THE SEED: the statements are not yours to turn. If you find one false, say at which input.
  Laid BY PROGRAM, IN A SANDBOX (cutbox-rows.mjs): the forced cells as the released guide's own fill.sh prints them over the translation 269e2e02f91dafd8… (all of the seat's roots in one cut). By AI agents, Wed Nov 11 2026. No macro, syntax, notation, axiom, sorry.
-/
import Derived.Test.YtbnilemmgmhbfaaChecked
import GoSem.Claim
import GoSem.ClaimJoined
import GoSem.ClaimMapViews
import Derived.JoinedTies
import Derived.KernelRfl
namespace Go.Proofs.Ytbnilemmgmhbfaa
/- THE CELL 'sum', in the pinned program and in every row, IS THE sha256 OF THE DUMP (.gsa) THAT YtbnilemmgmhbfaaProg.lean LOADS. Nothing in Lean hashes anything: it is a label: what it is worth is what the hold of that sum in a sandbox is worth. -/
noncomputable def Try.pinned : Pinned := { name := "ytbnilemmgmhbfaa", sum := "269e2e02f91dafd8ca9f3cee271eb21e214d14e78da8130690ecf4050b1b30a0", checked := Try.checked }
namespace Rows
def none {H : Type} : Left H := { results := [], args := [] }

/-- 'ambrylaw10.HeadReads': WHATEVER THE INPUT: true; the input reads as it did. -/
def headReadsSpec : ChangeSpec := { name := "headReads", fn := fun _ => fun
  | [d1, d2] => { results := [.lit (.bool true)], args := [d1, d2] }
  | _ => none }
def headReadsRow : OpenClaim := { program := "ytbnilemmgmhbfaa", sum := "269e2e02f91dafd8ca9f3cee271eb21e214d14e78da8130690ecf4050b1b30a0", func := "ambry/ambrylaw10.HeadReads", spec := "headReads", inPlace := ["internal/bytealg.IndexByteString", "internal/bytealg.IndexString", "internal/abi.NoEscape"], named := ["internal/bytealg.MaxLen"], apart := false }
def HeadReadsSaid : Prop := headReadsRow.holds Try.pinned (OpenSpec.ofChange headReadsSpec)

/-- ITS FALSE NEIGHBOUR: 'it returns false'. Refute it at one input. -/
def headReadsWrong : ChangeSpec := { name := "headReads", fn := fun _ => fun
  | [d1, d2] => { results := [.lit (.bool false)], args := [d1, d2] }
  | _ => none }
def HeadReadsWrongFalsely : Prop := headReadsRow.holds Try.pinned (OpenSpec.ofChange headReadsWrong)

/-- 'ambrylaw10.HeadWords': WHATEVER THE INPUT: true; the input reads as it did. -/
def headWordsSpec : ChangeSpec := { name := "headWords", fn := fun _ => fun
  | [d1, d2] => { results := [.lit (.bool true)], args := [d1, d2] }
  | _ => none }
def headWordsRow : OpenClaim := { program := "ytbnilemmgmhbfaa", sum := "269e2e02f91dafd8ca9f3cee271eb21e214d14e78da8130690ecf4050b1b30a0", func := "ambry/ambrylaw10.HeadWords", spec := "headWords", inPlace := ["internal/bytealg.IndexByteString", "internal/bytealg.IndexString", "internal/abi.NoEscape"], named := ["internal/bytealg.MaxLen"], apart := false }
def HeadWordsSaid : Prop := headWordsRow.holds Try.pinned (OpenSpec.ofChange headWordsSpec)

/-- ITS FALSE NEIGHBOUR: 'it returns false'. Refute it at one input. -/
def headWordsWrong : ChangeSpec := { name := "headWords", fn := fun _ => fun
  | [d1, d2] => { results := [.lit (.bool false)], args := [d1, d2] }
  | _ => none }
def HeadWordsWrongFalsely : Prop := headWordsRow.holds Try.pinned (OpenSpec.ofChange headWordsWrong)

/-- 'ambrylaw10.HeadBack': WHATEVER THE INPUT: true; the input reads as it did. -/
def headBackSpec : ChangeSpec := { name := "headBack", fn := fun _ => fun
  | [d] => { results := [.lit (.bool true)], args := [d] }
  | _ => none }
def headBackRow : OpenClaim := { program := "ytbnilemmgmhbfaa", sum := "269e2e02f91dafd8ca9f3cee271eb21e214d14e78da8130690ecf4050b1b30a0", func := "ambry/ambrylaw10.HeadBack", spec := "headBack", inPlace := ["internal/bytealg.IndexByteString", "internal/bytealg.IndexString", "internal/abi.NoEscape"], named := ["internal/bytealg.MaxLen"], apart := false }
def HeadBackSaid : Prop := headBackRow.holds Try.pinned (OpenSpec.ofChange headBackSpec)

/-- ITS FALSE NEIGHBOUR: 'it returns false'. Refute it at one input. -/
def headBackWrong : ChangeSpec := { name := "headBack", fn := fun _ => fun
  | [d] => { results := [.lit (.bool false)], args := [d] }
  | _ => none }
def HeadBackWrongFalsely : Prop := headBackRow.holds Try.pinned (OpenSpec.ofChange headBackWrong)

/-- 'ambrylaw10.HeadLists': WHATEVER THE INPUT: true; the input reads as it did. -/
def headListsSpec : ChangeSpec := { name := "headLists", fn := fun _ => fun
  | [d1, d2] => { results := [.lit (.bool true)], args := [d1, d2] }
  | _ => none }
def headListsRow : OpenClaim := { program := "ytbnilemmgmhbfaa", sum := "269e2e02f91dafd8ca9f3cee271eb21e214d14e78da8130690ecf4050b1b30a0", func := "ambry/ambrylaw10.HeadLists", spec := "headLists", inPlace := ["internal/bytealg.IndexByteString", "internal/bytealg.IndexString", "internal/abi.NoEscape"], named := ["internal/bytealg.MaxLen"], apart := false }
def HeadListsSaid : Prop := headListsRow.holds Try.pinned (OpenSpec.ofChange headListsSpec)

/-- ITS FALSE NEIGHBOUR: 'it returns false'. Refute it at one input. -/
def headListsWrong : ChangeSpec := { name := "headLists", fn := fun _ => fun
  | [d1, d2] => { results := [.lit (.bool false)], args := [d1, d2] }
  | _ => none }
def HeadListsWrongFalsely : Prop := headListsRow.holds Try.pinned (OpenSpec.ofChange headListsWrong)

/-- 'ambrylaw10.HeadBytes': WHATEVER THE INPUT: true; the input reads as it did. -/
def headBytesSpec : ChangeSpec := { name := "headBytes", fn := fun _ => fun
  | [d] => { results := [.lit (.bool true)], args := [d] }
  | _ => none }
def headBytesRow : OpenClaim := { program := "ytbnilemmgmhbfaa", sum := "269e2e02f91dafd8ca9f3cee271eb21e214d14e78da8130690ecf4050b1b30a0", func := "ambry/ambrylaw10.HeadBytes", spec := "headBytes", inPlace := ["internal/bytealg.IndexByteString", "internal/bytealg.IndexString", "internal/abi.NoEscape"], named := ["internal/bytealg.MaxLen"], apart := false }
def HeadBytesSaid : Prop := headBytesRow.holds Try.pinned (OpenSpec.ofChange headBytesSpec)

/-- ITS FALSE NEIGHBOUR: 'it returns false'. Refute it at one input. -/
def headBytesWrong : ChangeSpec := { name := "headBytes", fn := fun _ => fun
  | [d] => { results := [.lit (.bool false)], args := [d] }
  | _ => none }
def HeadBytesWrongFalsely : Prop := headBytesRow.holds Try.pinned (OpenSpec.ofChange headBytesWrong)

/-- 'ambrylaw10.HeadAsks': WHATEVER THE INPUT: true; the input reads as it did. -/
def headAsksSpec : ChangeSpec := { name := "headAsks", fn := fun _ => fun
  | [d1, d2, d3] => { results := [.lit (.bool true)], args := [d1, d2, d3] }
  | _ => none }
def headAsksRow : OpenClaim := { program := "ytbnilemmgmhbfaa", sum := "269e2e02f91dafd8ca9f3cee271eb21e214d14e78da8130690ecf4050b1b30a0", func := "ambry/ambrylaw10.HeadAsks", spec := "headAsks", inPlace := ["internal/bytealg.IndexByteString", "internal/bytealg.IndexString", "internal/abi.NoEscape"], unfollowed := true, recurses := true, named := ["internal/bytealg.MaxLen"], apart := false }
def HeadAsksSaid : Prop := headAsksRow.holds Try.pinned (OpenSpec.ofChange headAsksSpec)

/-- ITS FALSE NEIGHBOUR: 'it returns false'. Refute it at one input. -/
def headAsksWrong : ChangeSpec := { name := "headAsks", fn := fun _ => fun
  | [d1, d2, d3] => { results := [.lit (.bool false)], args := [d1, d2, d3] }
  | _ => none }
def HeadAsksWrongFalsely : Prop := headAsksRow.holds Try.pinned (OpenSpec.ofChange headAsksWrong)

/-- 'ambrylaw10.HeadSets': WHATEVER THE INPUT: true; the input reads as it did. -/
def headSetsSpec : ChangeSpec := { name := "headSets", fn := fun _ => fun
  | [d1, d2, d3] => { results := [.lit (.bool true)], args := [d1, d2, d3] }
  | _ => none }
def headSetsRow : OpenClaim := { program := "ytbnilemmgmhbfaa", sum := "269e2e02f91dafd8ca9f3cee271eb21e214d14e78da8130690ecf4050b1b30a0", func := "ambry/ambrylaw10.HeadSets", spec := "headSets", inPlace := ["internal/bytealg.IndexByteString", "internal/bytealg.IndexString", "internal/abi.NoEscape"], unfollowed := true, recurses := true, named := ["internal/bytealg.MaxLen"], apart := false }
def HeadSetsSaid : Prop := headSetsRow.holds Try.pinned (OpenSpec.ofChange headSetsSpec)

/-- ITS FALSE NEIGHBOUR: 'it returns false'. Refute it at one input. -/
def headSetsWrong : ChangeSpec := { name := "headSets", fn := fun _ => fun
  | [d1, d2, d3] => { results := [.lit (.bool false)], args := [d1, d2, d3] }
  | _ => none }
def HeadSetsWrongFalsely : Prop := headSetsRow.holds Try.pinned (OpenSpec.ofChange headSetsWrong)

/-- 'ambrylaw10.HeadHops': WHATEVER THE INPUT: true; the input reads as it did. -/
def headHopsSpec : ChangeSpec := { name := "headHops", fn := fun _ => fun
  | [d] => { results := [.lit (.bool true)], args := [d] }
  | _ => none }
def headHopsRow : OpenClaim := { program := "ytbnilemmgmhbfaa", sum := "269e2e02f91dafd8ca9f3cee271eb21e214d14e78da8130690ecf4050b1b30a0", func := "ambry/ambrylaw10.HeadHops", spec := "headHops", inPlace := ["internal/bytealg.IndexByteString", "internal/bytealg.IndexString", "internal/abi.NoEscape"], unfollowed := true, recurses := true, named := ["internal/bytealg.MaxLen"], apart := false }
def HeadHopsSaid : Prop := headHopsRow.holds Try.pinned (OpenSpec.ofChange headHopsSpec)

/-- ITS FALSE NEIGHBOUR: 'it returns false'. Refute it at one input. -/
def headHopsWrong : ChangeSpec := { name := "headHops", fn := fun _ => fun
  | [d] => { results := [.lit (.bool false)], args := [d] }
  | _ => none }
def HeadHopsWrongFalsely : Prop := headHopsRow.holds Try.pinned (OpenSpec.ofChange headHopsWrong)

/- THE SECOND FORM. 'bulk': how many values and letters a reading holds, each counted each time it is reached (what is shared counts as often as it is met; a slice's spare places count too). A statement '..UptoSaid' is the law's where the arguments, and the package variables that the reading takes, are together of bulk at most 1048576: NARROWER than '..Said'. Prove '..Said' where nothing that the law and all that it calls make is longer than what came in: it says more and counts as full. Else prove '..UptoSaid'. A law counts once. -/
mutual
def uptoBulk {H : Type} : DataW H → Nat
  | .lit (.string bytes) => bytes.length + 1
  | .lit _ => 1
  | .nil => 1
  | .ptr d => uptoBulk d + 1
  | .slice elems spare => uptoBulkAll elems + uptoBulkAll spare + 1
  | .agg parts => uptoBulkAll parts + 1
  | .iface _ d => uptoBulk d + 1
  | .map entries => uptoBulkEntries entries + 1
  | .held _ => 1
def uptoBulkAll {H : Type} : List (DataW H) → Nat
  | [] => 0
  | d :: r => uptoBulk d + uptoBulkAll r
def uptoBulkEntries {H : Type} : List (Lit × DataW H) → Nat
  | [] => 0
  | x :: r => uptoBulkEntry x + uptoBulkEntries r
def uptoBulkEntry {H : Type} : Lit × DataW H → Nat
  | (.string bytes, d) => bytes.length + uptoBulk d + 1
  | (_, d) => uptoBulk d + 1
 end
def uptoSmall : (H : Type) → List (DataW H) → Bool := fun _ ds => decide (uptoBulkAll ds ≤ 1048576)
def OpenSpec.upto (s : _root_.Go.ChangeSpec) : _root_.Go.OpenSpec := { _root_.Go.OpenSpec.ofChange s with cond := some uptoSmall }

/-- 'ambrylaw10.HeadReads', WHERE WHAT IT READS IS OF BULK AT MOST 1048576: true; the input reads as it did. -/
def headReadsUptoRow : OpenClaim := { program := "ytbnilemmgmhbfaa", sum := "269e2e02f91dafd8ca9f3cee271eb21e214d14e78da8130690ecf4050b1b30a0", func := "ambry/ambrylaw10.HeadReads", spec := "headReads", inPlace := ["internal/bytealg.IndexByteString", "internal/bytealg.IndexString", "internal/abi.NoEscape"], named := ["internal/bytealg.MaxLen"], apart := false, narrowed := true }
def HeadReadsUptoSaid : Prop := headReadsUptoRow.holds Try.pinned (OpenSpec.upto headReadsSpec)

/-- 'ambrylaw10.HeadWords', WHERE WHAT IT READS IS OF BULK AT MOST 1048576: true; the input reads as it did. -/
def headWordsUptoRow : OpenClaim := { program := "ytbnilemmgmhbfaa", sum := "269e2e02f91dafd8ca9f3cee271eb21e214d14e78da8130690ecf4050b1b30a0", func := "ambry/ambrylaw10.HeadWords", spec := "headWords", inPlace := ["internal/bytealg.IndexByteString", "internal/bytealg.IndexString", "internal/abi.NoEscape"], named := ["internal/bytealg.MaxLen"], apart := false, narrowed := true }
def HeadWordsUptoSaid : Prop := headWordsUptoRow.holds Try.pinned (OpenSpec.upto headWordsSpec)

/-- 'ambrylaw10.HeadBack', WHERE WHAT IT READS IS OF BULK AT MOST 1048576: true; the input reads as it did. -/
def headBackUptoRow : OpenClaim := { program := "ytbnilemmgmhbfaa", sum := "269e2e02f91dafd8ca9f3cee271eb21e214d14e78da8130690ecf4050b1b30a0", func := "ambry/ambrylaw10.HeadBack", spec := "headBack", inPlace := ["internal/bytealg.IndexByteString", "internal/bytealg.IndexString", "internal/abi.NoEscape"], named := ["internal/bytealg.MaxLen"], apart := false, narrowed := true }
def HeadBackUptoSaid : Prop := headBackUptoRow.holds Try.pinned (OpenSpec.upto headBackSpec)

/-- 'ambrylaw10.HeadLists', WHERE WHAT IT READS IS OF BULK AT MOST 1048576: true; the input reads as it did. -/
def headListsUptoRow : OpenClaim := { program := "ytbnilemmgmhbfaa", sum := "269e2e02f91dafd8ca9f3cee271eb21e214d14e78da8130690ecf4050b1b30a0", func := "ambry/ambrylaw10.HeadLists", spec := "headLists", inPlace := ["internal/bytealg.IndexByteString", "internal/bytealg.IndexString", "internal/abi.NoEscape"], named := ["internal/bytealg.MaxLen"], apart := false, narrowed := true }
def HeadListsUptoSaid : Prop := headListsUptoRow.holds Try.pinned (OpenSpec.upto headListsSpec)

/-- 'ambrylaw10.HeadBytes', WHERE WHAT IT READS IS OF BULK AT MOST 1048576: true; the input reads as it did. -/
def headBytesUptoRow : OpenClaim := { program := "ytbnilemmgmhbfaa", sum := "269e2e02f91dafd8ca9f3cee271eb21e214d14e78da8130690ecf4050b1b30a0", func := "ambry/ambrylaw10.HeadBytes", spec := "headBytes", inPlace := ["internal/bytealg.IndexByteString", "internal/bytealg.IndexString", "internal/abi.NoEscape"], named := ["internal/bytealg.MaxLen"], apart := false, narrowed := true }
def HeadBytesUptoSaid : Prop := headBytesUptoRow.holds Try.pinned (OpenSpec.upto headBytesSpec)

/-- 'ambrylaw10.HeadAsks', WHERE WHAT IT READS IS OF BULK AT MOST 1048576: true; the input reads as it did. -/
def headAsksUptoRow : OpenClaim := { program := "ytbnilemmgmhbfaa", sum := "269e2e02f91dafd8ca9f3cee271eb21e214d14e78da8130690ecf4050b1b30a0", func := "ambry/ambrylaw10.HeadAsks", spec := "headAsks", inPlace := ["internal/bytealg.IndexByteString", "internal/bytealg.IndexString", "internal/abi.NoEscape"], unfollowed := true, recurses := true, named := ["internal/bytealg.MaxLen"], apart := false, narrowed := true }
def HeadAsksUptoSaid : Prop := headAsksUptoRow.holds Try.pinned (OpenSpec.upto headAsksSpec)

/-- 'ambrylaw10.HeadSets', WHERE WHAT IT READS IS OF BULK AT MOST 1048576: true; the input reads as it did. -/
def headSetsUptoRow : OpenClaim := { program := "ytbnilemmgmhbfaa", sum := "269e2e02f91dafd8ca9f3cee271eb21e214d14e78da8130690ecf4050b1b30a0", func := "ambry/ambrylaw10.HeadSets", spec := "headSets", inPlace := ["internal/bytealg.IndexByteString", "internal/bytealg.IndexString", "internal/abi.NoEscape"], unfollowed := true, recurses := true, named := ["internal/bytealg.MaxLen"], apart := false, narrowed := true }
def HeadSetsUptoSaid : Prop := headSetsUptoRow.holds Try.pinned (OpenSpec.upto headSetsSpec)

/-- 'ambrylaw10.HeadHops', WHERE WHAT IT READS IS OF BULK AT MOST 1048576: true; the input reads as it did. -/
def headHopsUptoRow : OpenClaim := { program := "ytbnilemmgmhbfaa", sum := "269e2e02f91dafd8ca9f3cee271eb21e214d14e78da8130690ecf4050b1b30a0", func := "ambry/ambrylaw10.HeadHops", spec := "headHops", inPlace := ["internal/bytealg.IndexByteString", "internal/bytealg.IndexString", "internal/abi.NoEscape"], unfollowed := true, recurses := true, named := ["internal/bytealg.MaxLen"], apart := false, narrowed := true }
def HeadHopsUptoSaid : Prop := headHopsUptoRow.holds Try.pinned (OpenSpec.upto headHopsSpec)

end Rows
end Go.Proofs.Ytbnilemmgmhbfaa
