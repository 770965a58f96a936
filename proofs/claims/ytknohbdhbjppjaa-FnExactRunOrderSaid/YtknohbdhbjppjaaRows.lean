/-
  No cell of these rows narrows 'for every input' (looked for: loops, veiled, ifaces, maps, wideKeys, modest, calm, conditions, laid).
  DERIVED. THE GIVEN ROWS OF THIS SEAT. 11 by the template 'for every input the law returns true; each argument reads behind the call as it read before'; 0 by the template 'total and deterministic' (their statements: YtknohbdhbjppjaaTotals.lean).
  GIVEN WITH THE SEED: the statements are not yours to turn. If you find one false, say at which input.
  Laid BY PROGRAM, IN A SANDBOX (cutbox-rows.mjs): the forced cells as the released guide's own fill.sh prints them over the translation 15f01b11a99f7424… (all of the seat's roots in one cut). By AI agents, Wed Nov 11 2026. No macro, syntax, notation, axiom, sorry.
-/
import Derived.Test.YtknohbdhbjppjaaChecked
import GoSem.Claim
import GoSem.ClaimJoined
import GoSem.ClaimMapViews
import Derived.JoinedTies
import Derived.KernelRfl
namespace Go.Proofs.Ytknohbdhbjppjaa
/- THE CELL 'sum', in the pinned program and in every row, IS THE sha256 OF THE DUMP (.gsa) THAT YtknohbdhbjppjaaProg.lean LOADS. Nothing in Lean hashes anything: it is a label: what it is worth is what the hold of that sum in a sandbox is worth. -/
noncomputable def Try.pinned : Pinned := { name := "ytknohbdhbjppjaa", sum := "15f01b11a99f7424aaf5307439b77ad71e63a7202959aed269898c97df2099b2", checked := Try.checked }
namespace Rows
def none {H : Type} : Left H := { results := [], args := [] }

/-- 'laws.FnExactFirstBlock': WHATEVER THE INPUT: true; the input reads as it did. -/
def fnExactFirstBlockSpec : ChangeSpec := { name := "fnExactFirstBlock", fn := fun _ => fun
  | [d] => { results := [.lit (.bool true)], args := [d] }
  | _ => none }
def fnExactFirstBlockRow : OpenClaim := { program := "ytknohbdhbjppjaa", sum := "15f01b11a99f7424aaf5307439b77ad71e63a7202959aed269898c97df2099b2", func := "loop.example/blockexecutor/laws.FnExactFirstBlock", spec := "fnExactFirstBlock", unfollowed := true, recurses := true, apart := false }
def FnExactFirstBlockSaid : Prop := fnExactFirstBlockRow.holds Try.pinned (OpenSpec.ofChange fnExactFirstBlockSpec)

/-- ITS FALSE NEIGHBOUR: 'it returns false'. Refute it at one input. -/
def fnExactFirstBlockWrong : ChangeSpec := { name := "fnExactFirstBlock", fn := fun _ => fun
  | [d] => { results := [.lit (.bool false)], args := [d] }
  | _ => none }
def FnExactFirstBlockWrongFalsely : Prop := fnExactFirstBlockRow.holds Try.pinned (OpenSpec.ofChange fnExactFirstBlockWrong)

/-- 'laws.FnExactTreeOf': WHATEVER THE INPUT: true; the input reads as it did. -/
def fnExactTreeOfSpec : ChangeSpec := { name := "fnExactTreeOf", fn := fun _ => fun
  | [d] => { results := [.lit (.bool true)], args := [d] }
  | _ => none }
def fnExactTreeOfRow : OpenClaim := { program := "ytknohbdhbjppjaa", sum := "15f01b11a99f7424aaf5307439b77ad71e63a7202959aed269898c97df2099b2", func := "loop.example/blockexecutor/laws.FnExactTreeOf", spec := "fnExactTreeOf", unfollowed := true, recurses := true, apart := false }
def FnExactTreeOfSaid : Prop := fnExactTreeOfRow.holds Try.pinned (OpenSpec.ofChange fnExactTreeOfSpec)

/-- ITS FALSE NEIGHBOUR: 'it returns false'. Refute it at one input. -/
def fnExactTreeOfWrong : ChangeSpec := { name := "fnExactTreeOf", fn := fun _ => fun
  | [d] => { results := [.lit (.bool false)], args := [d] }
  | _ => none }
def FnExactTreeOfWrongFalsely : Prop := fnExactTreeOfRow.holds Try.pinned (OpenSpec.ofChange fnExactTreeOfWrong)

/-- 'laws.FnExactPutVersions': WHATEVER THE INPUT: true; the input reads as it did. -/
def fnExactPutVersionsSpec : ChangeSpec := { name := "fnExactPutVersions", fn := fun _ => fun
  | [d1, d2, d3] => { results := [.lit (.bool true)], args := [d1, d2, d3] }
  | _ => none }
def fnExactPutVersionsRow : OpenClaim := { program := "ytknohbdhbjppjaa", sum := "15f01b11a99f7424aaf5307439b77ad71e63a7202959aed269898c97df2099b2", func := "loop.example/blockexecutor/laws.FnExactPutVersions", spec := "fnExactPutVersions", unfollowed := true, recurses := true, apart := false }
def FnExactPutVersionsSaid : Prop := fnExactPutVersionsRow.holds Try.pinned (OpenSpec.ofChange fnExactPutVersionsSpec)

/-- ITS FALSE NEIGHBOUR: 'it returns false'. Refute it at one input. -/
def fnExactPutVersionsWrong : ChangeSpec := { name := "fnExactPutVersions", fn := fun _ => fun
  | [d1, d2, d3] => { results := [.lit (.bool false)], args := [d1, d2, d3] }
  | _ => none }
def FnExactPutVersionsWrongFalsely : Prop := fnExactPutVersionsRow.holds Try.pinned (OpenSpec.ofChange fnExactPutVersionsWrong)

/-- 'laws.FnExactRunOrder': WHATEVER THE INPUT: true; the input reads as it did. -/
def fnExactRunOrderSpec : ChangeSpec := { name := "fnExactRunOrder", fn := fun _ => fun
  | [d1, d2, d3] => { results := [.lit (.bool true)], args := [d1, d2, d3] }
  | _ => none }
def fnExactRunOrderRow : OpenClaim := { program := "ytknohbdhbjppjaa", sum := "15f01b11a99f7424aaf5307439b77ad71e63a7202959aed269898c97df2099b2", func := "loop.example/blockexecutor/laws.FnExactRunOrder", spec := "fnExactRunOrder", unfollowed := true, recurses := true, apart := false }
def FnExactRunOrderSaid : Prop := fnExactRunOrderRow.holds Try.pinned (OpenSpec.ofChange fnExactRunOrderSpec)

/-- ITS FALSE NEIGHBOUR: 'it returns false'. Refute it at one input. -/
def fnExactRunOrderWrong : ChangeSpec := { name := "fnExactRunOrder", fn := fun _ => fun
  | [d1, d2, d3] => { results := [.lit (.bool false)], args := [d1, d2, d3] }
  | _ => none }
def FnExactRunOrderWrongFalsely : Prop := fnExactRunOrderRow.holds Try.pinned (OpenSpec.ofChange fnExactRunOrderWrong)

/-- 'laws.FnExactBlockTreeValid': WHATEVER THE INPUT: true; the input reads as it did. -/
def fnExactBlockTreeValidSpec : ChangeSpec := { name := "fnExactBlockTreeValid", fn := fun _ => fun
  | [d] => { results := [.lit (.bool true)], args := [d] }
  | _ => none }
def fnExactBlockTreeValidRow : OpenClaim := { program := "ytknohbdhbjppjaa", sum := "15f01b11a99f7424aaf5307439b77ad71e63a7202959aed269898c97df2099b2", func := "loop.example/blockexecutor/laws.FnExactBlockTreeValid", spec := "fnExactBlockTreeValid", unfollowed := true, recurses := true, apart := false }
def FnExactBlockTreeValidSaid : Prop := fnExactBlockTreeValidRow.holds Try.pinned (OpenSpec.ofChange fnExactBlockTreeValidSpec)

/-- ITS FALSE NEIGHBOUR: 'it returns false'. Refute it at one input. -/
def fnExactBlockTreeValidWrong : ChangeSpec := { name := "fnExactBlockTreeValid", fn := fun _ => fun
  | [d] => { results := [.lit (.bool false)], args := [d] }
  | _ => none }
def FnExactBlockTreeValidWrongFalsely : Prop := fnExactBlockTreeValidRow.holds Try.pinned (OpenSpec.ofChange fnExactBlockTreeValidWrong)

/-- 'laws.FnExactBlockRight': WHATEVER THE INPUT: true; the input reads as it did. -/
def fnExactBlockRightSpec : ChangeSpec := { name := "fnExactBlockRight", fn := fun _ => fun
  | [d1, d2] => { results := [.lit (.bool true)], args := [d1, d2] }
  | _ => none }
def fnExactBlockRightRow : OpenClaim := { program := "ytknohbdhbjppjaa", sum := "15f01b11a99f7424aaf5307439b77ad71e63a7202959aed269898c97df2099b2", func := "loop.example/blockexecutor/laws.FnExactBlockRight", spec := "fnExactBlockRight", unfollowed := true, recurses := true, apart := false }
def FnExactBlockRightSaid : Prop := fnExactBlockRightRow.holds Try.pinned (OpenSpec.ofChange fnExactBlockRightSpec)

/-- ITS FALSE NEIGHBOUR: 'it returns false'. Refute it at one input. -/
def fnExactBlockRightWrong : ChangeSpec := { name := "fnExactBlockRight", fn := fun _ => fun
  | [d1, d2] => { results := [.lit (.bool false)], args := [d1, d2] }
  | _ => none }
def FnExactBlockRightWrongFalsely : Prop := fnExactBlockRightRow.holds Try.pinned (OpenSpec.ofChange fnExactBlockRightWrong)

/-- 'laws.FnExactLevelOrder': WHATEVER THE INPUT: true; the input reads as it did. -/
def fnExactLevelOrderSpec : ChangeSpec := { name := "fnExactLevelOrder", fn := fun _ => fun
  | [d] => { results := [.lit (.bool true)], args := [d] }
  | _ => none }
def fnExactLevelOrderRow : OpenClaim := { program := "ytknohbdhbjppjaa", sum := "15f01b11a99f7424aaf5307439b77ad71e63a7202959aed269898c97df2099b2", func := "loop.example/blockexecutor/laws.FnExactLevelOrder", spec := "fnExactLevelOrder", unfollowed := true, recurses := true, apart := false }
def FnExactLevelOrderSaid : Prop := fnExactLevelOrderRow.holds Try.pinned (OpenSpec.ofChange fnExactLevelOrderSpec)

/-- ITS FALSE NEIGHBOUR: 'it returns false'. Refute it at one input. -/
def fnExactLevelOrderWrong : ChangeSpec := { name := "fnExactLevelOrder", fn := fun _ => fun
  | [d] => { results := [.lit (.bool false)], args := [d] }
  | _ => none }
def FnExactLevelOrderWrongFalsely : Prop := fnExactLevelOrderRow.holds Try.pinned (OpenSpec.ofChange fnExactLevelOrderWrong)

/-- 'laws.FnExactFindBlock': WHATEVER THE INPUT: true; the input reads as it did. -/
def fnExactFindBlockSpec : ChangeSpec := { name := "fnExactFindBlock", fn := fun _ => fun
  | [d1, d2] => { results := [.lit (.bool true)], args := [d1, d2] }
  | _ => none }
def fnExactFindBlockRow : OpenClaim := { program := "ytknohbdhbjppjaa", sum := "15f01b11a99f7424aaf5307439b77ad71e63a7202959aed269898c97df2099b2", func := "loop.example/blockexecutor/laws.FnExactFindBlock", spec := "fnExactFindBlock", unfollowed := true, recurses := true, apart := false }
def FnExactFindBlockSaid : Prop := fnExactFindBlockRow.holds Try.pinned (OpenSpec.ofChange fnExactFindBlockSpec)

/-- ITS FALSE NEIGHBOUR: 'it returns false'. Refute it at one input. -/
def fnExactFindBlockWrong : ChangeSpec := { name := "fnExactFindBlock", fn := fun _ => fun
  | [d1, d2] => { results := [.lit (.bool false)], args := [d1, d2] }
  | _ => none }
def FnExactFindBlockWrongFalsely : Prop := fnExactFindBlockRow.holds Try.pinned (OpenSpec.ofChange fnExactFindBlockWrong)

/-- 'laws.FnExactIsBefore': WHATEVER THE INPUT: true; the input reads as it did. -/
def fnExactIsBeforeSpec : ChangeSpec := { name := "fnExactIsBefore", fn := fun _ => fun
  | [d1, d2, d3] => { results := [.lit (.bool true)], args := [d1, d2, d3] }
  | _ => none }
def fnExactIsBeforeRow : OpenClaim := { program := "ytknohbdhbjppjaa", sum := "15f01b11a99f7424aaf5307439b77ad71e63a7202959aed269898c97df2099b2", func := "loop.example/blockexecutor/laws.FnExactIsBefore", spec := "fnExactIsBefore", unfollowed := true, recurses := true, apart := false }
def FnExactIsBeforeSaid : Prop := fnExactIsBeforeRow.holds Try.pinned (OpenSpec.ofChange fnExactIsBeforeSpec)

/-- ITS FALSE NEIGHBOUR: 'it returns false'. Refute it at one input. -/
def fnExactIsBeforeWrong : ChangeSpec := { name := "fnExactIsBefore", fn := fun _ => fun
  | [d1, d2, d3] => { results := [.lit (.bool false)], args := [d1, d2, d3] }
  | _ => none }
def FnExactIsBeforeWrongFalsely : Prop := fnExactIsBeforeRow.holds Try.pinned (OpenSpec.ofChange fnExactIsBeforeWrong)

/-- 'laws.FnExactPathTo': WHATEVER THE INPUT: true; the input reads as it did. -/
def fnExactPathToSpec : ChangeSpec := { name := "fnExactPathTo", fn := fun _ => fun
  | [d1, d2] => { results := [.lit (.bool true)], args := [d1, d2] }
  | _ => none }
def fnExactPathToRow : OpenClaim := { program := "ytknohbdhbjppjaa", sum := "15f01b11a99f7424aaf5307439b77ad71e63a7202959aed269898c97df2099b2", func := "loop.example/blockexecutor/laws.FnExactPathTo", spec := "fnExactPathTo", unfollowed := true, recurses := true, apart := false }
def FnExactPathToSaid : Prop := fnExactPathToRow.holds Try.pinned (OpenSpec.ofChange fnExactPathToSpec)

/-- ITS FALSE NEIGHBOUR: 'it returns false'. Refute it at one input. -/
def fnExactPathToWrong : ChangeSpec := { name := "fnExactPathTo", fn := fun _ => fun
  | [d1, d2] => { results := [.lit (.bool false)], args := [d1, d2] }
  | _ => none }
def FnExactPathToWrongFalsely : Prop := fnExactPathToRow.holds Try.pinned (OpenSpec.ofChange fnExactPathToWrong)

/-- 'laws.FnConflictSelf': WHATEVER THE INPUT: true; the input reads as it did. -/
def fnConflictSelfSpec : ChangeSpec := { name := "fnConflictSelf", fn := fun _ => fun
  | [d] => { results := [.lit (.bool true)], args := [d] }
  | _ => none }
def fnConflictSelfRow : OpenClaim := { program := "ytknohbdhbjppjaa", sum := "15f01b11a99f7424aaf5307439b77ad71e63a7202959aed269898c97df2099b2", func := "loop.example/blockexecutor/laws.FnConflictSelf", spec := "fnConflictSelf", unfollowed := true, recurses := true, apart := false }
def FnConflictSelfSaid : Prop := fnConflictSelfRow.holds Try.pinned (OpenSpec.ofChange fnConflictSelfSpec)

/-- ITS FALSE NEIGHBOUR: 'it returns false'. Refute it at one input. -/
def fnConflictSelfWrong : ChangeSpec := { name := "fnConflictSelf", fn := fun _ => fun
  | [d] => { results := [.lit (.bool false)], args := [d] }
  | _ => none }
def FnConflictSelfWrongFalsely : Prop := fnConflictSelfRow.holds Try.pinned (OpenSpec.ofChange fnConflictSelfWrong)

/- THE SECOND FORM. 'bulk': how many values and letters a reading holds, each counted each time it is reached (what is shared counts as often as it is met; a slice's spare places count too). A statement '..UptoSaid' is the law's where the arguments, and the package variables that the reading takes, are together of bulk at most 1048576: NARROWER than '..Said'. Prove '..Said' where nothing that the law and all that it calls make is longer than what came in: it says more and counts as full. Else prove '..UptoSaid'. A law counts once. -/
mutual
def uptoBulk {H : Type} : DataW H → Nat
  | .lit (.string bytes) => bytes.length + 1
  | .lit _ => 1
  | .nil => 1
  | .ptr d => uptoBulk d + 1
  | .slice elems spare => uptoBulkAll elems + uptoBulkAll spare + 1
  | .agg parts => uptoBulkAll parts + 1
  | .iface _ d => uptoBulk d + 1
  | .map entries => uptoBulkEntries entries + 1
  | .held _ => 1
def uptoBulkAll {H : Type} : List (DataW H) → Nat
  | [] => 0
  | d :: r => uptoBulk d + uptoBulkAll r
def uptoBulkEntries {H : Type} : List (Lit × DataW H) → Nat
  | [] => 0
  | x :: r => uptoBulkEntry x + uptoBulkEntries r
def uptoBulkEntry {H : Type} : Lit × DataW H → Nat
  | (.string bytes, d) => bytes.length + uptoBulk d + 1
  | (_, d) => uptoBulk d + 1
 end
def uptoSmall : (H : Type) → List (DataW H) → Bool := fun _ ds => decide (uptoBulkAll ds ≤ 1048576)
def OpenSpec.upto (s : _root_.Go.ChangeSpec) : _root_.Go.OpenSpec := { _root_.Go.OpenSpec.ofChange s with cond := some uptoSmall }

/-- 'laws.FnExactFirstBlock', WHERE WHAT IT READS IS OF BULK AT MOST 1048576: true; the input reads as it did. -/
def fnExactFirstBlockUptoRow : OpenClaim := { program := "ytknohbdhbjppjaa", sum := "15f01b11a99f7424aaf5307439b77ad71e63a7202959aed269898c97df2099b2", func := "loop.example/blockexecutor/laws.FnExactFirstBlock", spec := "fnExactFirstBlock", unfollowed := true, recurses := true, apart := false, narrowed := true }
def FnExactFirstBlockUptoSaid : Prop := fnExactFirstBlockUptoRow.holds Try.pinned (OpenSpec.upto fnExactFirstBlockSpec)

/-- 'laws.FnExactTreeOf', WHERE WHAT IT READS IS OF BULK AT MOST 1048576: true; the input reads as it did. -/
def fnExactTreeOfUptoRow : OpenClaim := { program := "ytknohbdhbjppjaa", sum := "15f01b11a99f7424aaf5307439b77ad71e63a7202959aed269898c97df2099b2", func := "loop.example/blockexecutor/laws.FnExactTreeOf", spec := "fnExactTreeOf", unfollowed := true, recurses := true, apart := false, narrowed := true }
def FnExactTreeOfUptoSaid : Prop := fnExactTreeOfUptoRow.holds Try.pinned (OpenSpec.upto fnExactTreeOfSpec)

/-- 'laws.FnExactPutVersions', WHERE WHAT IT READS IS OF BULK AT MOST 1048576: true; the input reads as it did. -/
def fnExactPutVersionsUptoRow : OpenClaim := { program := "ytknohbdhbjppjaa", sum := "15f01b11a99f7424aaf5307439b77ad71e63a7202959aed269898c97df2099b2", func := "loop.example/blockexecutor/laws.FnExactPutVersions", spec := "fnExactPutVersions", unfollowed := true, recurses := true, apart := false, narrowed := true }
def FnExactPutVersionsUptoSaid : Prop := fnExactPutVersionsUptoRow.holds Try.pinned (OpenSpec.upto fnExactPutVersionsSpec)

/-- 'laws.FnExactRunOrder', WHERE WHAT IT READS IS OF BULK AT MOST 1048576: true; the input reads as it did. -/
def fnExactRunOrderUptoRow : OpenClaim := { program := "ytknohbdhbjppjaa", sum := "15f01b11a99f7424aaf5307439b77ad71e63a7202959aed269898c97df2099b2", func := "loop.example/blockexecutor/laws.FnExactRunOrder", spec := "fnExactRunOrder", unfollowed := true, recurses := true, apart := false, narrowed := true }
def FnExactRunOrderUptoSaid : Prop := fnExactRunOrderUptoRow.holds Try.pinned (OpenSpec.upto fnExactRunOrderSpec)

/-- 'laws.FnExactBlockTreeValid', WHERE WHAT IT READS IS OF BULK AT MOST 1048576: true; the input reads as it did. -/
def fnExactBlockTreeValidUptoRow : OpenClaim := { program := "ytknohbdhbjppjaa", sum := "15f01b11a99f7424aaf5307439b77ad71e63a7202959aed269898c97df2099b2", func := "loop.example/blockexecutor/laws.FnExactBlockTreeValid", spec := "fnExactBlockTreeValid", unfollowed := true, recurses := true, apart := false, narrowed := true }
def FnExactBlockTreeValidUptoSaid : Prop := fnExactBlockTreeValidUptoRow.holds Try.pinned (OpenSpec.upto fnExactBlockTreeValidSpec)

/-- 'laws.FnExactBlockRight', WHERE WHAT IT READS IS OF BULK AT MOST 1048576: true; the input reads as it did. -/
def fnExactBlockRightUptoRow : OpenClaim := { program := "ytknohbdhbjppjaa", sum := "15f01b11a99f7424aaf5307439b77ad71e63a7202959aed269898c97df2099b2", func := "loop.example/blockexecutor/laws.FnExactBlockRight", spec := "fnExactBlockRight", unfollowed := true, recurses := true, apart := false, narrowed := true }
def FnExactBlockRightUptoSaid : Prop := fnExactBlockRightUptoRow.holds Try.pinned (OpenSpec.upto fnExactBlockRightSpec)

/-- 'laws.FnExactLevelOrder', WHERE WHAT IT READS IS OF BULK AT MOST 1048576: true; the input reads as it did. -/
def fnExactLevelOrderUptoRow : OpenClaim := { program := "ytknohbdhbjppjaa", sum := "15f01b11a99f7424aaf5307439b77ad71e63a7202959aed269898c97df2099b2", func := "loop.example/blockexecutor/laws.FnExactLevelOrder", spec := "fnExactLevelOrder", unfollowed := true, recurses := true, apart := false, narrowed := true }
def FnExactLevelOrderUptoSaid : Prop := fnExactLevelOrderUptoRow.holds Try.pinned (OpenSpec.upto fnExactLevelOrderSpec)

/-- 'laws.FnExactFindBlock', WHERE WHAT IT READS IS OF BULK AT MOST 1048576: true; the input reads as it did. -/
def fnExactFindBlockUptoRow : OpenClaim := { program := "ytknohbdhbjppjaa", sum := "15f01b11a99f7424aaf5307439b77ad71e63a7202959aed269898c97df2099b2", func := "loop.example/blockexecutor/laws.FnExactFindBlock", spec := "fnExactFindBlock", unfollowed := true, recurses := true, apart := false, narrowed := true }
def FnExactFindBlockUptoSaid : Prop := fnExactFindBlockUptoRow.holds Try.pinned (OpenSpec.upto fnExactFindBlockSpec)

/-- 'laws.FnExactIsBefore', WHERE WHAT IT READS IS OF BULK AT MOST 1048576: true; the input reads as it did. -/
def fnExactIsBeforeUptoRow : OpenClaim := { program := "ytknohbdhbjppjaa", sum := "15f01b11a99f7424aaf5307439b77ad71e63a7202959aed269898c97df2099b2", func := "loop.example/blockexecutor/laws.FnExactIsBefore", spec := "fnExactIsBefore", unfollowed := true, recurses := true, apart := false, narrowed := true }
def FnExactIsBeforeUptoSaid : Prop := fnExactIsBeforeUptoRow.holds Try.pinned (OpenSpec.upto fnExactIsBeforeSpec)

/-- 'laws.FnExactPathTo', WHERE WHAT IT READS IS OF BULK AT MOST 1048576: true; the input reads as it did. -/
def fnExactPathToUptoRow : OpenClaim := { program := "ytknohbdhbjppjaa", sum := "15f01b11a99f7424aaf5307439b77ad71e63a7202959aed269898c97df2099b2", func := "loop.example/blockexecutor/laws.FnExactPathTo", spec := "fnExactPathTo", unfollowed := true, recurses := true, apart := false, narrowed := true }
def FnExactPathToUptoSaid : Prop := fnExactPathToUptoRow.holds Try.pinned (OpenSpec.upto fnExactPathToSpec)

/-- 'laws.FnConflictSelf', WHERE WHAT IT READS IS OF BULK AT MOST 1048576: true; the input reads as it did. -/
def fnConflictSelfUptoRow : OpenClaim := { program := "ytknohbdhbjppjaa", sum := "15f01b11a99f7424aaf5307439b77ad71e63a7202959aed269898c97df2099b2", func := "loop.example/blockexecutor/laws.FnConflictSelf", spec := "fnConflictSelf", unfollowed := true, recurses := true, apart := false, narrowed := true }
def FnConflictSelfUptoSaid : Prop := fnConflictSelfUptoRow.holds Try.pinned (OpenSpec.upto fnConflictSelfSpec)

end Rows
end Go.Proofs.Ytknohbdhbjppjaa
