/-
  No cell of these rows narrows 'for every input' (looked for: loops, veiled, ifaces, maps, wideKeys, modest, calm, conditions, laid).
  DERIVED. THE GIVEN ROWS OF THIS SEAT. 3 by the template 'for every input the law returns true; each argument reads behind the call as it read before'; 0 by the template 'total and deterministic' (their statements: YtjliebggdphmpaaTotals.lean).
  GIVEN WITH THE SEED: the statements are not yours to turn. If you find one false, say at which input.
  Laid BY PROGRAM, IN A SANDBOX (cutbox-rows.mjs): the forced cells as the released guide's own fill.sh prints them over the translation fcb24fcbdf97d138… (all of the seat's roots in one cut). By AI agents, Wed Nov 11 2026. No macro, syntax, notation, axiom, sorry.
-/
import Derived.Test.YtjliebggdphmpaaChecked
import GoSem.Claim
import GoSem.ClaimJoined
import GoSem.ClaimMapViews
import Derived.JoinedTies
import Derived.KernelRfl
namespace Go.Proofs.Ytjliebggdphmpaa
/- THE CELL 'sum', in the pinned program and in every row, IS THE sha256 OF THE DUMP (.gsa) THAT YtjliebggdphmpaaProg.lean LOADS. Nothing in Lean hashes anything: it is a label: what it is worth is what the hold of that sum in a sandbox is worth. -/
noncomputable def Try.pinned : Pinned := { name := "ytjliebggdphmpaa", sum := "fcb24fcbdf97d138cdbcbbcb5a9f987b612a0bb3ac00bde3cfcc1233029f8c10", checked := Try.checked }
namespace Rows
def none {H : Type} : Left H := { results := [], args := [] }

/-- 'ambrylaw26.AclReads': WHATEVER THE INPUT: true; the input reads as it did. -/
def aclReadsSpec : ChangeSpec := { name := "aclReads", fn := fun _ => fun
  | [d1, d2] => { results := [.lit (.bool true)], args := [d1, d2] }
  | _ => none }
def aclReadsRow : OpenClaim := { program := "ytjliebggdphmpaa", sum := "fcb24fcbdf97d138cdbcbbcb5a9f987b612a0bb3ac00bde3cfcc1233029f8c10", func := "ambry/ambrylaw26.AclReads", spec := "aclReads", inPlace := ["internal/bytealg.IndexByteString", "internal/bytealg.IndexString", "internal/abi.NoEscape", "internal/bytealg.MakeNoZero"], unfollowed := true, recurses := true, named := ["internal/bytealg.MaxLen"], apart := false }
def AclReadsSaid : Prop := aclReadsRow.holds Try.pinned (OpenSpec.ofChange aclReadsSpec)

/-- ITS FALSE NEIGHBOUR: 'it returns false'. Refute it at one input. -/
def aclReadsWrong : ChangeSpec := { name := "aclReads", fn := fun _ => fun
  | [d1, d2] => { results := [.lit (.bool false)], args := [d1, d2] }
  | _ => none }
def AclReadsWrongFalsely : Prop := aclReadsRow.holds Try.pinned (OpenSpec.ofChange aclReadsWrong)

/-- 'ambrylaw26.AclChecks': WHATEVER THE INPUT: true; the input reads as it did. -/
def aclChecksSpec : ChangeSpec := { name := "aclChecks", fn := fun _ => fun
  | [d1, d2] => { results := [.lit (.bool true)], args := [d1, d2] }
  | _ => none }
def aclChecksRow : OpenClaim := { program := "ytjliebggdphmpaa", sum := "fcb24fcbdf97d138cdbcbbcb5a9f987b612a0bb3ac00bde3cfcc1233029f8c10", func := "ambry/ambrylaw26.AclChecks", spec := "aclChecks", inPlace := ["internal/bytealg.IndexByteString", "internal/bytealg.IndexString", "internal/abi.NoEscape", "internal/bytealg.MakeNoZero"], unfollowed := true, recurses := true, named := ["internal/bytealg.MaxLen"], apart := false }
def AclChecksSaid : Prop := aclChecksRow.holds Try.pinned (OpenSpec.ofChange aclChecksSpec)

/-- ITS FALSE NEIGHBOUR: 'it returns false'. Refute it at one input. -/
def aclChecksWrong : ChangeSpec := { name := "aclChecks", fn := fun _ => fun
  | [d1, d2] => { results := [.lit (.bool false)], args := [d1, d2] }
  | _ => none }
def AclChecksWrongFalsely : Prop := aclChecksRow.holds Try.pinned (OpenSpec.ofChange aclChecksWrong)

/-- 'ambrylaw26.AclFirst': WHATEVER THE INPUT: true; the input reads as it did. -/
def aclFirstSpec : ChangeSpec := { name := "aclFirst", fn := fun _ => fun
  | [d1, d2, d3] => { results := [.lit (.bool true)], args := [d1, d2, d3] }
  | _ => none }
def aclFirstRow : OpenClaim := { program := "ytjliebggdphmpaa", sum := "fcb24fcbdf97d138cdbcbbcb5a9f987b612a0bb3ac00bde3cfcc1233029f8c10", func := "ambry/ambrylaw26.AclFirst", spec := "aclFirst", inPlace := ["internal/bytealg.IndexByteString", "internal/bytealg.IndexString", "internal/abi.NoEscape", "internal/bytealg.MakeNoZero"], unfollowed := true, recurses := true, named := ["internal/bytealg.MaxLen"], apart := false }
def AclFirstSaid : Prop := aclFirstRow.holds Try.pinned (OpenSpec.ofChange aclFirstSpec)

/-- ITS FALSE NEIGHBOUR: 'it returns false'. Refute it at one input. -/
def aclFirstWrong : ChangeSpec := { name := "aclFirst", fn := fun _ => fun
  | [d1, d2, d3] => { results := [.lit (.bool false)], args := [d1, d2, d3] }
  | _ => none }
def AclFirstWrongFalsely : Prop := aclFirstRow.holds Try.pinned (OpenSpec.ofChange aclFirstWrong)

/- THE SECOND FORM. 'bulk': how many values and letters a reading holds, each counted each time it is reached (what is shared counts as often as it is met; a slice's spare places count too). A statement '..UptoSaid' is the law's where the arguments, and the package variables that the reading takes, are together of bulk at most 1048576: NARROWER than '..Said'. Prove '..Said' where nothing that the law and all that it calls make is longer than what came in: it says more and counts as full. Else prove '..UptoSaid'. A law counts once. -/
mutual
def uptoBulk {H : Type} : DataW H → Nat
  | .lit (.string bytes) => bytes.length + 1
  | .lit _ => 1
  | .nil => 1
  | .ptr d => uptoBulk d + 1
  | .slice elems spare => uptoBulkAll elems + uptoBulkAll spare + 1
  | .agg parts => uptoBulkAll parts + 1
  | .iface _ d => uptoBulk d + 1
  | .map entries => uptoBulkEntries entries + 1
  | .held _ => 1
def uptoBulkAll {H : Type} : List (DataW H) → Nat
  | [] => 0
  | d :: r => uptoBulk d + uptoBulkAll r
def uptoBulkEntries {H : Type} : List (Lit × DataW H) → Nat
  | [] => 0
  | x :: r => uptoBulkEntry x + uptoBulkEntries r
def uptoBulkEntry {H : Type} : Lit × DataW H → Nat
  | (.string bytes, d) => bytes.length + uptoBulk d + 1
  | (_, d) => uptoBulk d + 1
 end
def uptoSmall : (H : Type) → List (DataW H) → Bool := fun _ ds => decide (uptoBulkAll ds ≤ 1048576)
def OpenSpec.upto (s : _root_.Go.ChangeSpec) : _root_.Go.OpenSpec := { _root_.Go.OpenSpec.ofChange s with cond := some uptoSmall }

/-- 'ambrylaw26.AclReads', WHERE WHAT IT READS IS OF BULK AT MOST 1048576: true; the input reads as it did. -/
def aclReadsUptoRow : OpenClaim := { program := "ytjliebggdphmpaa", sum := "fcb24fcbdf97d138cdbcbbcb5a9f987b612a0bb3ac00bde3cfcc1233029f8c10", func := "ambry/ambrylaw26.AclReads", spec := "aclReads", inPlace := ["internal/bytealg.IndexByteString", "internal/bytealg.IndexString", "internal/abi.NoEscape", "internal/bytealg.MakeNoZero"], unfollowed := true, recurses := true, named := ["internal/bytealg.MaxLen"], apart := false, narrowed := true }
def AclReadsUptoSaid : Prop := aclReadsUptoRow.holds Try.pinned (OpenSpec.upto aclReadsSpec)

/-- 'ambrylaw26.AclChecks', WHERE WHAT IT READS IS OF BULK AT MOST 1048576: true; the input reads as it did. -/
def aclChecksUptoRow : OpenClaim := { program := "ytjliebggdphmpaa", sum := "fcb24fcbdf97d138cdbcbbcb5a9f987b612a0bb3ac00bde3cfcc1233029f8c10", func := "ambry/ambrylaw26.AclChecks", spec := "aclChecks", inPlace := ["internal/bytealg.IndexByteString", "internal/bytealg.IndexString", "internal/abi.NoEscape", "internal/bytealg.MakeNoZero"], unfollowed := true, recurses := true, named := ["internal/bytealg.MaxLen"], apart := false, narrowed := true }
def AclChecksUptoSaid : Prop := aclChecksUptoRow.holds Try.pinned (OpenSpec.upto aclChecksSpec)

/-- 'ambrylaw26.AclFirst', WHERE WHAT IT READS IS OF BULK AT MOST 1048576: true; the input reads as it did. -/
def aclFirstUptoRow : OpenClaim := { program := "ytjliebggdphmpaa", sum := "fcb24fcbdf97d138cdbcbbcb5a9f987b612a0bb3ac00bde3cfcc1233029f8c10", func := "ambry/ambrylaw26.AclFirst", spec := "aclFirst", inPlace := ["internal/bytealg.IndexByteString", "internal/bytealg.IndexString", "internal/abi.NoEscape", "internal/bytealg.MakeNoZero"], unfollowed := true, recurses := true, named := ["internal/bytealg.MaxLen"], apart := false, narrowed := true }
def AclFirstUptoSaid : Prop := aclFirstUptoRow.holds Try.pinned (OpenSpec.upto aclFirstSpec)

end Rows
end Go.Proofs.Ytjliebggdphmpaa
