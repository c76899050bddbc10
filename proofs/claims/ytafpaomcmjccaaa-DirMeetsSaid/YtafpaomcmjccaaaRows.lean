/-
  No cell of these rows narrows 'for every input' (looked for: loops, veiled, ifaces, maps, wideKeys, modest, calm, conditions, laid).
  DERIVED. THE GIVEN ROWS OF THIS SEAT. 6 by the template 'for every input the law returns true; each argument reads behind the call as it read before'; 0 by the template 'total and deterministic' (their statements: YtafpaomcmjccaaaTotals.lean).
  GIVEN WITH THE SEED: the statements are not yours to turn. If you find one false, say at which input.
  Laid BY PROGRAM, IN A SANDBOX (cutbox-rows.mjs): the forced cells as the released guide's own fill.sh prints them over the translation 239d9052a9f55cea… (all of the seat's roots in one cut). By AI agents, Wed Nov 11 2026. No macro, syntax, notation, axiom, sorry.
-/
import Derived.Test.YtafpaomcmjccaaaChecked
import GoSem.Claim
import GoSem.ClaimJoined
import GoSem.ClaimMapViews
import Derived.JoinedTies
import Derived.KernelRfl
namespace Go.Proofs.Ytafpaomcmjccaaa
/- THE CELL 'sum', in the pinned program and in every row, IS THE sha256 OF THE DUMP (.gsa) THAT YtafpaomcmjccaaaProg.lean LOADS. Nothing in Lean hashes anything: it is a label: what it is worth is what the hold of that sum in a sandbox is worth. -/
noncomputable def Try.pinned : Pinned := { name := "ytafpaomcmjccaaa", sum := "239d9052a9f55cea86bb8e01f422dd39dd766c1e6399057b9a31dfbb05d9a575", checked := Try.checked }
namespace Rows
def none {H : Type} : Left H := { results := [], args := [] }

/-- 'ambrylaw5.DirKeys': WHATEVER THE INPUT: true; the input reads as it did. -/
def dirKeysSpec : ChangeSpec := { name := "dirKeys", fn := fun _ => fun
  | [d1, d2] => { results := [.lit (.bool true)], args := [d1, d2] }
  | _ => none }
def dirKeysRow : OpenClaim := { program := "ytafpaomcmjccaaa", sum := "239d9052a9f55cea86bb8e01f422dd39dd766c1e6399057b9a31dfbb05d9a575", func := "ambry/ambrylaw5.DirKeys", spec := "dirKeys", unfollowed := true, recurses := true, apart := false }
def DirKeysSaid : Prop := dirKeysRow.holds Try.pinned (OpenSpec.ofChange dirKeysSpec)

/-- ITS FALSE NEIGHBOUR: 'it returns false'. Refute it at one input. -/
def dirKeysWrong : ChangeSpec := { name := "dirKeys", fn := fun _ => fun
  | [d1, d2] => { results := [.lit (.bool false)], args := [d1, d2] }
  | _ => none }
def DirKeysWrongFalsely : Prop := dirKeysRow.holds Try.pinned (OpenSpec.ofChange dirKeysWrong)

/-- 'ambrylaw5.DirFull': WHATEVER THE INPUT: true; the input reads as it did. -/
def dirFullSpec : ChangeSpec := { name := "dirFull", fn := fun _ => fun
  | [d1, d2, d3] => { results := [.lit (.bool true)], args := [d1, d2, d3] }
  | _ => none }
def dirFullRow : OpenClaim := { program := "ytafpaomcmjccaaa", sum := "239d9052a9f55cea86bb8e01f422dd39dd766c1e6399057b9a31dfbb05d9a575", func := "ambry/ambrylaw5.DirFull", spec := "dirFull", unfollowed := true, recurses := true, apart := false }
def DirFullSaid : Prop := dirFullRow.holds Try.pinned (OpenSpec.ofChange dirFullSpec)

/-- ITS FALSE NEIGHBOUR: 'it returns false'. Refute it at one input. -/
def dirFullWrong : ChangeSpec := { name := "dirFull", fn := fun _ => fun
  | [d1, d2, d3] => { results := [.lit (.bool false)], args := [d1, d2, d3] }
  | _ => none }
def DirFullWrongFalsely : Prop := dirFullRow.holds Try.pinned (OpenSpec.ofChange dirFullWrong)

/-- 'ambrylaw5.DirMeets': WHATEVER THE INPUT: true; the input reads as it did. -/
def dirMeetsSpec : ChangeSpec := { name := "dirMeets", fn := fun _ => fun
  | [d1, d2] => { results := [.lit (.bool true)], args := [d1, d2] }
  | _ => none }
def dirMeetsRow : OpenClaim := { program := "ytafpaomcmjccaaa", sum := "239d9052a9f55cea86bb8e01f422dd39dd766c1e6399057b9a31dfbb05d9a575", func := "ambry/ambrylaw5.DirMeets", spec := "dirMeets", unfollowed := true, recurses := true, apart := false }
def DirMeetsSaid : Prop := dirMeetsRow.holds Try.pinned (OpenSpec.ofChange dirMeetsSpec)

/-- ITS FALSE NEIGHBOUR: 'it returns false'. Refute it at one input. -/
def dirMeetsWrong : ChangeSpec := { name := "dirMeets", fn := fun _ => fun
  | [d1, d2] => { results := [.lit (.bool false)], args := [d1, d2] }
  | _ => none }
def DirMeetsWrongFalsely : Prop := dirMeetsRow.holds Try.pinned (OpenSpec.ofChange dirMeetsWrong)

/-- 'ambrylaw5.DirSweeps': WHATEVER THE INPUT: true; the input reads as it did. -/
def dirSweepsSpec : ChangeSpec := { name := "dirSweeps", fn := fun _ => fun
  | [d1, d2, d3] => { results := [.lit (.bool true)], args := [d1, d2, d3] }
  | _ => none }
def dirSweepsRow : OpenClaim := { program := "ytafpaomcmjccaaa", sum := "239d9052a9f55cea86bb8e01f422dd39dd766c1e6399057b9a31dfbb05d9a575", func := "ambry/ambrylaw5.DirSweeps", spec := "dirSweeps", unfollowed := true, recurses := true, apart := false }
def DirSweepsSaid : Prop := dirSweepsRow.holds Try.pinned (OpenSpec.ofChange dirSweepsSpec)

/-- ITS FALSE NEIGHBOUR: 'it returns false'. Refute it at one input. -/
def dirSweepsWrong : ChangeSpec := { name := "dirSweeps", fn := fun _ => fun
  | [d1, d2, d3] => { results := [.lit (.bool false)], args := [d1, d2, d3] }
  | _ => none }
def DirSweepsWrongFalsely : Prop := dirSweepsRow.holds Try.pinned (OpenSpec.ofChange dirSweepsWrong)

/-- 'ambrylaw5.DirPlays': WHATEVER THE INPUT: true; the input reads as it did. -/
def dirPlaysSpec : ChangeSpec := { name := "dirPlays", fn := fun _ => fun
  | [d1, d2, d3] => { results := [.lit (.bool true)], args := [d1, d2, d3] }
  | _ => none }
def dirPlaysRow : OpenClaim := { program := "ytafpaomcmjccaaa", sum := "239d9052a9f55cea86bb8e01f422dd39dd766c1e6399057b9a31dfbb05d9a575", func := "ambry/ambrylaw5.DirPlays", spec := "dirPlays", unfollowed := true, recurses := true, apart := false }
def DirPlaysSaid : Prop := dirPlaysRow.holds Try.pinned (OpenSpec.ofChange dirPlaysSpec)

/-- ITS FALSE NEIGHBOUR: 'it returns false'. Refute it at one input. -/
def dirPlaysWrong : ChangeSpec := { name := "dirPlays", fn := fun _ => fun
  | [d1, d2, d3] => { results := [.lit (.bool false)], args := [d1, d2, d3] }
  | _ => none }
def DirPlaysWrongFalsely : Prop := dirPlaysRow.holds Try.pinned (OpenSpec.ofChange dirPlaysWrong)

/-- 'ambrylaw5.DirOpens': WHATEVER THE INPUT: true; the input reads as it did. -/
def dirOpensSpec : ChangeSpec := { name := "dirOpens", fn := fun _ => fun
  | [d1, d2, d3, d4, d5] => { results := [.lit (.bool true)], args := [d1, d2, d3, d4, d5] }
  | _ => none }
def dirOpensRow : OpenClaim := { program := "ytafpaomcmjccaaa", sum := "239d9052a9f55cea86bb8e01f422dd39dd766c1e6399057b9a31dfbb05d9a575", func := "ambry/ambrylaw5.DirOpens", spec := "dirOpens", unfollowed := true, recurses := true, apart := false }
def DirOpensSaid : Prop := dirOpensRow.holds Try.pinned (OpenSpec.ofChange dirOpensSpec)

/-- ITS FALSE NEIGHBOUR: 'it returns false'. Refute it at one input. -/
def dirOpensWrong : ChangeSpec := { name := "dirOpens", fn := fun _ => fun
  | [d1, d2, d3, d4, d5] => { results := [.lit (.bool false)], args := [d1, d2, d3, d4, d5] }
  | _ => none }
def DirOpensWrongFalsely : Prop := dirOpensRow.holds Try.pinned (OpenSpec.ofChange dirOpensWrong)

/- THE SECOND FORM. 'bulk': how many values and letters a reading holds, each counted each time it is reached (what is shared counts as often as it is met; a slice's spare places count too). A statement '..UptoSaid' is the law's where the arguments, and the package variables that the reading takes, are together of bulk at most 1048576: NARROWER than '..Said'. Prove '..Said' where nothing that the law and all that it calls make is longer than what came in: it says more and counts as full. Else prove '..UptoSaid'. A law counts once. -/
mutual
def uptoBulk {H : Type} : DataW H → Nat
  | .lit (.string bytes) => bytes.length + 1
  | .lit _ => 1
  | .nil => 1
  | .ptr d => uptoBulk d + 1
  | .slice elems spare => uptoBulkAll elems + uptoBulkAll spare + 1
  | .agg parts => uptoBulkAll parts + 1
  | .iface _ d => uptoBulk d + 1
  | .map entries => uptoBulkEntries entries + 1
  | .held _ => 1
def uptoBulkAll {H : Type} : List (DataW H) → Nat
  | [] => 0
  | d :: r => uptoBulk d + uptoBulkAll r
def uptoBulkEntries {H : Type} : List (Lit × DataW H) → Nat
  | [] => 0
  | x :: r => uptoBulkEntry x + uptoBulkEntries r
def uptoBulkEntry {H : Type} : Lit × DataW H → Nat
  | (.string bytes, d) => bytes.length + uptoBulk d + 1
  | (_, d) => uptoBulk d + 1
 end
def uptoSmall : (H : Type) → List (DataW H) → Bool := fun _ ds => decide (uptoBulkAll ds ≤ 1048576)
def OpenSpec.upto (s : _root_.Go.ChangeSpec) : _root_.Go.OpenSpec := { _root_.Go.OpenSpec.ofChange s with cond := some uptoSmall }

/-- 'ambrylaw5.DirKeys', WHERE WHAT IT READS IS OF BULK AT MOST 1048576: true; the input reads as it did. -/
def dirKeysUptoRow : OpenClaim := { program := "ytafpaomcmjccaaa", sum := "239d9052a9f55cea86bb8e01f422dd39dd766c1e6399057b9a31dfbb05d9a575", func := "ambry/ambrylaw5.DirKeys", spec := "dirKeys", unfollowed := true, recurses := true, apart := false, narrowed := true }
def DirKeysUptoSaid : Prop := dirKeysUptoRow.holds Try.pinned (OpenSpec.upto dirKeysSpec)

/-- 'ambrylaw5.DirFull', WHERE WHAT IT READS IS OF BULK AT MOST 1048576: true; the input reads as it did. -/
def dirFullUptoRow : OpenClaim := { program := "ytafpaomcmjccaaa", sum := "239d9052a9f55cea86bb8e01f422dd39dd766c1e6399057b9a31dfbb05d9a575", func := "ambry/ambrylaw5.DirFull", spec := "dirFull", unfollowed := true, recurses := true, apart := false, narrowed := true }
def DirFullUptoSaid : Prop := dirFullUptoRow.holds Try.pinned (OpenSpec.upto dirFullSpec)

/-- 'ambrylaw5.DirMeets', WHERE WHAT IT READS IS OF BULK AT MOST 1048576: true; the input reads as it did. -/
def dirMeetsUptoRow : OpenClaim := { program := "ytafpaomcmjccaaa", sum := "239d9052a9f55cea86bb8e01f422dd39dd766c1e6399057b9a31dfbb05d9a575", func := "ambry/ambrylaw5.DirMeets", spec := "dirMeets", unfollowed := true, recurses := true, apart := false, narrowed := true }
def DirMeetsUptoSaid : Prop := dirMeetsUptoRow.holds Try.pinned (OpenSpec.upto dirMeetsSpec)

/-- 'ambrylaw5.DirSweeps', WHERE WHAT IT READS IS OF BULK AT MOST 1048576: true; the input reads as it did. -/
def dirSweepsUptoRow : OpenClaim := { program := "ytafpaomcmjccaaa", sum := "239d9052a9f55cea86bb8e01f422dd39dd766c1e6399057b9a31dfbb05d9a575", func := "ambry/ambrylaw5.DirSweeps", spec := "dirSweeps", unfollowed := true, recurses := true, apart := false, narrowed := true }
def DirSweepsUptoSaid : Prop := dirSweepsUptoRow.holds Try.pinned (OpenSpec.upto dirSweepsSpec)

/-- 'ambrylaw5.DirPlays', WHERE WHAT IT READS IS OF BULK AT MOST 1048576: true; the input reads as it did. -/
def dirPlaysUptoRow : OpenClaim := { program := "ytafpaomcmjccaaa", sum := "239d9052a9f55cea86bb8e01f422dd39dd766c1e6399057b9a31dfbb05d9a575", func := "ambry/ambrylaw5.DirPlays", spec := "dirPlays", unfollowed := true, recurses := true, apart := false, narrowed := true }
def DirPlaysUptoSaid : Prop := dirPlaysUptoRow.holds Try.pinned (OpenSpec.upto dirPlaysSpec)

/-- 'ambrylaw5.DirOpens', WHERE WHAT IT READS IS OF BULK AT MOST 1048576: true; the input reads as it did. -/
def dirOpensUptoRow : OpenClaim := { program := "ytafpaomcmjccaaa", sum := "239d9052a9f55cea86bb8e01f422dd39dd766c1e6399057b9a31dfbb05d9a575", func := "ambry/ambrylaw5.DirOpens", spec := "dirOpens", unfollowed := true, recurses := true, apart := false, narrowed := true }
def DirOpensUptoSaid : Prop := dirOpensUptoRow.holds Try.pinned (OpenSpec.upto dirOpensSpec)

end Rows
end Go.Proofs.Ytafpaomcmjccaaa
