/-
  No cell of these rows narrows 'for every input' (looked for: loops, veiled, ifaces, maps, wideKeys, modest, calm, conditions, laid).
  DERIVED. THE GIVEN ROWS OF THIS SEAT. 4 by the template 'for every input the law returns true; each argument reads behind the call as it read before'; 0 by the template 'total and deterministic' (their statements: YteiemjebdhmnaaaTotals.lean).
  GIVEN WITH THE SEED: the statements are not yours to turn. If you find one false, say at which input.
  Laid BY PROGRAM, IN A SANDBOX (cutbox-rows.mjs): the forced cells as the released guide's own fill.sh prints them over the translation 5d374a2ca2fc8d65… (all of the seat's roots in one cut). By AI agents, Wed Nov 11 2026. No macro, syntax, notation, axiom, sorry.
-/
import Derived.Test.YteiemjebdhmnaaaChecked
import GoSem.Claim
import GoSem.ClaimJoined
import GoSem.ClaimMapViews
import Derived.JoinedTies
import Derived.KernelRfl
namespace Go.Proofs.Yteiemjebdhmnaaa
/- THE CELL 'sum', in the pinned program and in every row, IS THE sha256 OF THE DUMP (.gsa) THAT YteiemjebdhmnaaaProg.lean LOADS. Nothing in Lean hashes anything: it is a label: what it is worth is what the hold of that sum in a sandbox is worth. -/
noncomputable def Try.pinned : Pinned := { name := "yteiemjebdhmnaaa", sum := "5d374a2ca2fc8d6538426e631ed7e1925c14c3e54b3b891704cfe1b7c5ad0c36", checked := Try.checked }
namespace Rows
def none {H : Type} : Left H := { results := [], args := [] }

/-- 'laws.FnStoreOf': WHATEVER THE INPUT: true; the input reads as it did. -/
def fnStoreOfSpec : ChangeSpec := { name := "fnStoreOf", fn := fun _ => fun
  | [d] => { results := [.lit (.bool true)], args := [d] }
  | _ => none }
def fnStoreOfRow : OpenClaim := { program := "yteiemjebdhmnaaa", sum := "5d374a2ca2fc8d6538426e631ed7e1925c14c3e54b3b891704cfe1b7c5ad0c36", func := "loop.example/blockexecutor/laws.FnStoreOf", spec := "fnStoreOf", unfollowed := true, recurses := true, apart := false }
def FnStoreOfSaid : Prop := fnStoreOfRow.holds Try.pinned (OpenSpec.ofChange fnStoreOfSpec)

/-- ITS FALSE NEIGHBOUR: 'it returns false'. Refute it at one input. -/
def fnStoreOfWrong : ChangeSpec := { name := "fnStoreOf", fn := fun _ => fun
  | [d] => { results := [.lit (.bool false)], args := [d] }
  | _ => none }
def FnStoreOfWrongFalsely : Prop := fnStoreOfRow.holds Try.pinned (OpenSpec.ofChange fnStoreOfWrong)

/-- 'laws.FnRightBlocks': WHATEVER THE INPUT: true; the input reads as it did. -/
def fnRightBlocksSpec : ChangeSpec := { name := "fnRightBlocks", fn := fun _ => fun
  | [d] => { results := [.lit (.bool true)], args := [d] }
  | _ => none }
def fnRightBlocksRow : OpenClaim := { program := "yteiemjebdhmnaaa", sum := "5d374a2ca2fc8d6538426e631ed7e1925c14c3e54b3b891704cfe1b7c5ad0c36", func := "loop.example/blockexecutor/laws.FnRightBlocks", spec := "fnRightBlocks", unfollowed := true, recurses := true, apart := false }
def FnRightBlocksSaid : Prop := fnRightBlocksRow.holds Try.pinned (OpenSpec.ofChange fnRightBlocksSpec)

/-- ITS FALSE NEIGHBOUR: 'it returns false'. Refute it at one input. -/
def fnRightBlocksWrong : ChangeSpec := { name := "fnRightBlocks", fn := fun _ => fun
  | [d] => { results := [.lit (.bool false)], args := [d] }
  | _ => none }
def FnRightBlocksWrongFalsely : Prop := fnRightBlocksRow.holds Try.pinned (OpenSpec.ofChange fnRightBlocksWrong)

/-- 'laws.FnBlockRight': WHATEVER THE INPUT: true; the input reads as it did. -/
def fnBlockRightSpec : ChangeSpec := { name := "fnBlockRight", fn := fun _ => fun
  | [d] => { results := [.lit (.bool true)], args := [d] }
  | _ => none }
def fnBlockRightRow : OpenClaim := { program := "yteiemjebdhmnaaa", sum := "5d374a2ca2fc8d6538426e631ed7e1925c14c3e54b3b891704cfe1b7c5ad0c36", func := "loop.example/blockexecutor/laws.FnBlockRight", spec := "fnBlockRight", unfollowed := true, recurses := true, apart := false }
def FnBlockRightSaid : Prop := fnBlockRightRow.holds Try.pinned (OpenSpec.ofChange fnBlockRightSpec)

/-- ITS FALSE NEIGHBOUR: 'it returns false'. Refute it at one input. -/
def fnBlockRightWrong : ChangeSpec := { name := "fnBlockRight", fn := fun _ => fun
  | [d] => { results := [.lit (.bool false)], args := [d] }
  | _ => none }
def FnBlockRightWrongFalsely : Prop := fnBlockRightRow.holds Try.pinned (OpenSpec.ofChange fnBlockRightWrong)

/-- 'laws.FnFindBlock': WHATEVER THE INPUT: true; the input reads as it did. -/
def fnFindBlockSpec : ChangeSpec := { name := "fnFindBlock", fn := fun _ => fun
  | [d] => { results := [.lit (.bool true)], args := [d] }
  | _ => none }
def fnFindBlockRow : OpenClaim := { program := "yteiemjebdhmnaaa", sum := "5d374a2ca2fc8d6538426e631ed7e1925c14c3e54b3b891704cfe1b7c5ad0c36", func := "loop.example/blockexecutor/laws.FnFindBlock", spec := "fnFindBlock", unfollowed := true, recurses := true, apart := false }
def FnFindBlockSaid : Prop := fnFindBlockRow.holds Try.pinned (OpenSpec.ofChange fnFindBlockSpec)

/-- ITS FALSE NEIGHBOUR: 'it returns false'. Refute it at one input. -/
def fnFindBlockWrong : ChangeSpec := { name := "fnFindBlock", fn := fun _ => fun
  | [d] => { results := [.lit (.bool false)], args := [d] }
  | _ => none }
def FnFindBlockWrongFalsely : Prop := fnFindBlockRow.holds Try.pinned (OpenSpec.ofChange fnFindBlockWrong)

/- THE SECOND FORM. 'bulk': how many values and letters a reading holds, each counted each time it is reached (what is shared counts as often as it is met; a slice's spare places count too). A statement '..UptoSaid' is the law's where the arguments, and the package variables that the reading takes, are together of bulk at most 1048576: NARROWER than '..Said'. Prove '..Said' where nothing that the law and all that it calls make is longer than what came in: it says more and counts as full. Else prove '..UptoSaid'. A law counts once. -/
mutual
def uptoBulk {H : Type} : DataW H → Nat
  | .lit (.string bytes) => bytes.length + 1
  | .lit _ => 1
  | .nil => 1
  | .ptr d => uptoBulk d + 1
  | .slice elems spare => uptoBulkAll elems + uptoBulkAll spare + 1
  | .agg parts => uptoBulkAll parts + 1
  | .iface _ d => uptoBulk d + 1
  | .map entries => uptoBulkEntries entries + 1
  | .held _ => 1
def uptoBulkAll {H : Type} : List (DataW H) → Nat
  | [] => 0
  | d :: r => uptoBulk d + uptoBulkAll r
def uptoBulkEntries {H : Type} : List (Lit × DataW H) → Nat
  | [] => 0
  | x :: r => uptoBulkEntry x + uptoBulkEntries r
def uptoBulkEntry {H : Type} : Lit × DataW H → Nat
  | (.string bytes, d) => bytes.length + uptoBulk d + 1
  | (_, d) => uptoBulk d + 1
 end
def uptoSmall : (H : Type) → List (DataW H) → Bool := fun _ ds => decide (uptoBulkAll ds ≤ 1048576)
def OpenSpec.upto (s : _root_.Go.ChangeSpec) : _root_.Go.OpenSpec := { _root_.Go.OpenSpec.ofChange s with cond := some uptoSmall }

/-- 'laws.FnStoreOf', WHERE WHAT IT READS IS OF BULK AT MOST 1048576: true; the input reads as it did. -/
def fnStoreOfUptoRow : OpenClaim := { program := "yteiemjebdhmnaaa", sum := "5d374a2ca2fc8d6538426e631ed7e1925c14c3e54b3b891704cfe1b7c5ad0c36", func := "loop.example/blockexecutor/laws.FnStoreOf", spec := "fnStoreOf", unfollowed := true, recurses := true, apart := false, narrowed := true }
def FnStoreOfUptoSaid : Prop := fnStoreOfUptoRow.holds Try.pinned (OpenSpec.upto fnStoreOfSpec)

/-- 'laws.FnRightBlocks', WHERE WHAT IT READS IS OF BULK AT MOST 1048576: true; the input reads as it did. -/
def fnRightBlocksUptoRow : OpenClaim := { program := "yteiemjebdhmnaaa", sum := "5d374a2ca2fc8d6538426e631ed7e1925c14c3e54b3b891704cfe1b7c5ad0c36", func := "loop.example/blockexecutor/laws.FnRightBlocks", spec := "fnRightBlocks", unfollowed := true, recurses := true, apart := false, narrowed := true }
def FnRightBlocksUptoSaid : Prop := fnRightBlocksUptoRow.holds Try.pinned (OpenSpec.upto fnRightBlocksSpec)

/-- 'laws.FnBlockRight', WHERE WHAT IT READS IS OF BULK AT MOST 1048576: true; the input reads as it did. -/
def fnBlockRightUptoRow : OpenClaim := { program := "yteiemjebdhmnaaa", sum := "5d374a2ca2fc8d6538426e631ed7e1925c14c3e54b3b891704cfe1b7c5ad0c36", func := "loop.example/blockexecutor/laws.FnBlockRight", spec := "fnBlockRight", unfollowed := true, recurses := true, apart := false, narrowed := true }
def FnBlockRightUptoSaid : Prop := fnBlockRightUptoRow.holds Try.pinned (OpenSpec.upto fnBlockRightSpec)

/-- 'laws.FnFindBlock', WHERE WHAT IT READS IS OF BULK AT MOST 1048576: true; the input reads as it did. -/
def fnFindBlockUptoRow : OpenClaim := { program := "yteiemjebdhmnaaa", sum := "5d374a2ca2fc8d6538426e631ed7e1925c14c3e54b3b891704cfe1b7c5ad0c36", func := "loop.example/blockexecutor/laws.FnFindBlock", spec := "fnFindBlock", unfollowed := true, recurses := true, apart := false, narrowed := true }
def FnFindBlockUptoSaid : Prop := fnFindBlockUptoRow.holds Try.pinned (OpenSpec.upto fnFindBlockSpec)

end Rows
end Go.Proofs.Yteiemjebdhmnaaa
