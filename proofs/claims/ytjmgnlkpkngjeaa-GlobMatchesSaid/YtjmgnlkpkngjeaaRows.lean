/-
  No cell of these rows narrows 'for every input' (looked for: loops, veiled, ifaces, maps, wideKeys, modest, calm, conditions, laid).
  DERIVED. THE GIVEN ROWS OF THIS SEAT. 5 by the template 'for every input the law returns true; each argument reads behind the call as it read before'; 0 by the template 'total and deterministic' (their statements: YtjmgnlkpkngjeaaTotals.lean).
  GIVEN WITH THE SEED: the statements are not yours to turn. If you find one false, say at which input.
  Laid BY PROGRAM, IN A SANDBOX (cutbox-rows.mjs): the forced cells as the released guide's own fill.sh prints them over the translation 5a76fa4af13ebc74… (all of the seat's roots in one cut). By AI agents, Wed Nov 11 2026. No macro, syntax, notation, axiom, sorry.
-/
import Derived.Test.YtjmgnlkpkngjeaaChecked
import GoSem.Claim
import GoSem.ClaimJoined
import GoSem.ClaimMapViews
import Derived.JoinedTies
import Derived.KernelRfl
namespace Go.Proofs.Ytjmgnlkpkngjeaa
/- THE CELL 'sum', in the pinned program and in every row, IS THE sha256 OF THE DUMP (.gsa) THAT YtjmgnlkpkngjeaaProg.lean LOADS. Nothing in Lean hashes anything: it is a label: what it is worth is what the hold of that sum in a sandbox is worth. -/
noncomputable def Try.pinned : Pinned := { name := "ytjmgnlkpkngjeaa", sum := "5a76fa4af13ebc74331d8de55ec1ac2e558605ca598c257ef303ab3ca491808a", checked := Try.checked }
namespace Rows
def none {H : Type} : Left H := { results := [], args := [] }

/-- 'ambrylaw24.GlobMatches': WHATEVER THE INPUT: true; the input reads as it did. -/
def globMatchesSpec : ChangeSpec := { name := "globMatches", fn := fun _ => fun
  | [d1, d2] => { results := [.lit (.bool true)], args := [d1, d2] }
  | _ => none }
def globMatchesRow : OpenClaim := { program := "ytjmgnlkpkngjeaa", sum := "5a76fa4af13ebc74331d8de55ec1ac2e558605ca598c257ef303ab3ca491808a", func := "ambry/ambrylaw24.GlobMatches", spec := "globMatches", apart := false }
def GlobMatchesSaid : Prop := globMatchesRow.holds Try.pinned (OpenSpec.ofChange globMatchesSpec)

/-- ITS FALSE NEIGHBOUR: 'it returns false'. Refute it at one input. -/
def globMatchesWrong : ChangeSpec := { name := "globMatches", fn := fun _ => fun
  | [d1, d2] => { results := [.lit (.bool false)], args := [d1, d2] }
  | _ => none }
def GlobMatchesWrongFalsely : Prop := globMatchesRow.holds Try.pinned (OpenSpec.ofChange globMatchesWrong)

/-- 'ambrylaw24.GlobSelf': WHATEVER THE INPUT: true; the input reads as it did. -/
def globSelfSpec : ChangeSpec := { name := "globSelf", fn := fun _ => fun
  | [d1, d2] => { results := [.lit (.bool true)], args := [d1, d2] }
  | _ => none }
def globSelfRow : OpenClaim := { program := "ytjmgnlkpkngjeaa", sum := "5a76fa4af13ebc74331d8de55ec1ac2e558605ca598c257ef303ab3ca491808a", func := "ambry/ambrylaw24.GlobSelf", spec := "globSelf", apart := false }
def GlobSelfSaid : Prop := globSelfRow.holds Try.pinned (OpenSpec.ofChange globSelfSpec)

/-- ITS FALSE NEIGHBOUR: 'it returns false'. Refute it at one input. -/
def globSelfWrong : ChangeSpec := { name := "globSelf", fn := fun _ => fun
  | [d1, d2] => { results := [.lit (.bool false)], args := [d1, d2] }
  | _ => none }
def GlobSelfWrongFalsely : Prop := globSelfRow.holds Try.pinned (OpenSpec.ofChange globSelfWrong)

/-- 'ambrylaw24.GlobSegments': WHATEVER THE INPUT: true; the input reads as it did. -/
def globSegmentsSpec : ChangeSpec := { name := "globSegments", fn := fun _ => fun
  | [d1, d2] => { results := [.lit (.bool true)], args := [d1, d2] }
  | _ => none }
def globSegmentsRow : OpenClaim := { program := "ytjmgnlkpkngjeaa", sum := "5a76fa4af13ebc74331d8de55ec1ac2e558605ca598c257ef303ab3ca491808a", func := "ambry/ambrylaw24.GlobSegments", spec := "globSegments", apart := false }
def GlobSegmentsSaid : Prop := globSegmentsRow.holds Try.pinned (OpenSpec.ofChange globSegmentsSpec)

/-- ITS FALSE NEIGHBOUR: 'it returns false'. Refute it at one input. -/
def globSegmentsWrong : ChangeSpec := { name := "globSegments", fn := fun _ => fun
  | [d1, d2] => { results := [.lit (.bool false)], args := [d1, d2] }
  | _ => none }
def GlobSegmentsWrongFalsely : Prop := globSegmentsRow.holds Try.pinned (OpenSpec.ofChange globSegmentsWrong)

/-- 'ambrylaw24.GlobGreat': WHATEVER THE INPUT: true; the input reads as it did. -/
def globGreatSpec : ChangeSpec := { name := "globGreat", fn := fun _ => fun
  | [d1, d2, d3] => { results := [.lit (.bool true)], args := [d1, d2, d3] }
  | _ => none }
def globGreatRow : OpenClaim := { program := "ytjmgnlkpkngjeaa", sum := "5a76fa4af13ebc74331d8de55ec1ac2e558605ca598c257ef303ab3ca491808a", func := "ambry/ambrylaw24.GlobGreat", spec := "globGreat", apart := false }
def GlobGreatSaid : Prop := globGreatRow.holds Try.pinned (OpenSpec.ofChange globGreatSpec)

/-- ITS FALSE NEIGHBOUR: 'it returns false'. Refute it at one input. -/
def globGreatWrong : ChangeSpec := { name := "globGreat", fn := fun _ => fun
  | [d1, d2, d3] => { results := [.lit (.bool false)], args := [d1, d2, d3] }
  | _ => none }
def GlobGreatWrongFalsely : Prop := globGreatRow.holds Try.pinned (OpenSpec.ofChange globGreatWrong)

/-- 'ambrylaw24.GlobLong': WHATEVER THE INPUT: true; the input reads as it did. -/
def globLongSpec : ChangeSpec := { name := "globLong", fn := fun _ => fun
  | [d] => { results := [.lit (.bool true)], args := [d] }
  | _ => none }
def globLongRow : OpenClaim := { program := "ytjmgnlkpkngjeaa", sum := "5a76fa4af13ebc74331d8de55ec1ac2e558605ca598c257ef303ab3ca491808a", func := "ambry/ambrylaw24.GlobLong", spec := "globLong", apart := false }
def GlobLongSaid : Prop := globLongRow.holds Try.pinned (OpenSpec.ofChange globLongSpec)

/-- ITS FALSE NEIGHBOUR: 'it returns false'. Refute it at one input. -/
def globLongWrong : ChangeSpec := { name := "globLong", fn := fun _ => fun
  | [d] => { results := [.lit (.bool false)], args := [d] }
  | _ => none }
def GlobLongWrongFalsely : Prop := globLongRow.holds Try.pinned (OpenSpec.ofChange globLongWrong)

/- THE SECOND FORM. 'bulk': how many values and letters a reading holds, each counted each time it is reached (what is shared counts as often as it is met; a slice's spare places count too). A statement '..UptoSaid' is the law's where the arguments, and the package variables that the reading takes, are together of bulk at most 1048576: NARROWER than '..Said'. Prove '..Said' where nothing that the law and all that it calls make is longer than what came in: it says more and counts as full. Else prove '..UptoSaid'. A law counts once. -/
mutual
def uptoBulk {H : Type} : DataW H → Nat
  | .lit (.string bytes) => bytes.length + 1
  | .lit _ => 1
  | .nil => 1
  | .ptr d => uptoBulk d + 1
  | .slice elems spare => uptoBulkAll elems + uptoBulkAll spare + 1
  | .agg parts => uptoBulkAll parts + 1
  | .iface _ d => uptoBulk d + 1
  | .map entries => uptoBulkEntries entries + 1
  | .held _ => 1
def uptoBulkAll {H : Type} : List (DataW H) → Nat
  | [] => 0
  | d :: r => uptoBulk d + uptoBulkAll r
def uptoBulkEntries {H : Type} : List (Lit × DataW H) → Nat
  | [] => 0
  | x :: r => uptoBulkEntry x + uptoBulkEntries r
def uptoBulkEntry {H : Type} : Lit × DataW H → Nat
  | (.string bytes, d) => bytes.length + uptoBulk d + 1
  | (_, d) => uptoBulk d + 1
 end
def uptoSmall : (H : Type) → List (DataW H) → Bool := fun _ ds => decide (uptoBulkAll ds ≤ 1048576)
def OpenSpec.upto (s : _root_.Go.ChangeSpec) : _root_.Go.OpenSpec := { _root_.Go.OpenSpec.ofChange s with cond := some uptoSmall }

/-- 'ambrylaw24.GlobMatches', WHERE WHAT IT READS IS OF BULK AT MOST 1048576: true; the input reads as it did. -/
def globMatchesUptoRow : OpenClaim := { program := "ytjmgnlkpkngjeaa", sum := "5a76fa4af13ebc74331d8de55ec1ac2e558605ca598c257ef303ab3ca491808a", func := "ambry/ambrylaw24.GlobMatches", spec := "globMatches", apart := false, narrowed := true }
def GlobMatchesUptoSaid : Prop := globMatchesUptoRow.holds Try.pinned (OpenSpec.upto globMatchesSpec)

/-- 'ambrylaw24.GlobSelf', WHERE WHAT IT READS IS OF BULK AT MOST 1048576: true; the input reads as it did. -/
def globSelfUptoRow : OpenClaim := { program := "ytjmgnlkpkngjeaa", sum := "5a76fa4af13ebc74331d8de55ec1ac2e558605ca598c257ef303ab3ca491808a", func := "ambry/ambrylaw24.GlobSelf", spec := "globSelf", apart := false, narrowed := true }
def GlobSelfUptoSaid : Prop := globSelfUptoRow.holds Try.pinned (OpenSpec.upto globSelfSpec)

/-- 'ambrylaw24.GlobSegments', WHERE WHAT IT READS IS OF BULK AT MOST 1048576: true; the input reads as it did. -/
def globSegmentsUptoRow : OpenClaim := { program := "ytjmgnlkpkngjeaa", sum := "5a76fa4af13ebc74331d8de55ec1ac2e558605ca598c257ef303ab3ca491808a", func := "ambry/ambrylaw24.GlobSegments", spec := "globSegments", apart := false, narrowed := true }
def GlobSegmentsUptoSaid : Prop := globSegmentsUptoRow.holds Try.pinned (OpenSpec.upto globSegmentsSpec)

/-- 'ambrylaw24.GlobGreat', WHERE WHAT IT READS IS OF BULK AT MOST 1048576: true; the input reads as it did. -/
def globGreatUptoRow : OpenClaim := { program := "ytjmgnlkpkngjeaa", sum := "5a76fa4af13ebc74331d8de55ec1ac2e558605ca598c257ef303ab3ca491808a", func := "ambry/ambrylaw24.GlobGreat", spec := "globGreat", apart := false, narrowed := true }
def GlobGreatUptoSaid : Prop := globGreatUptoRow.holds Try.pinned (OpenSpec.upto globGreatSpec)

/-- 'ambrylaw24.GlobLong', WHERE WHAT IT READS IS OF BULK AT MOST 1048576: true; the input reads as it did. -/
def globLongUptoRow : OpenClaim := { program := "ytjmgnlkpkngjeaa", sum := "5a76fa4af13ebc74331d8de55ec1ac2e558605ca598c257ef303ab3ca491808a", func := "ambry/ambrylaw24.GlobLong", spec := "globLong", apart := false, narrowed := true }
def GlobLongUptoSaid : Prop := globLongUptoRow.holds Try.pinned (OpenSpec.upto globLongSpec)

end Rows
end Go.Proofs.Ytjmgnlkpkngjeaa
