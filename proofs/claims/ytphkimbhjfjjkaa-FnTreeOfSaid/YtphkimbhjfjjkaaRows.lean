/-
  No cell of these rows narrows 'for every input' (looked for: loops, veiled, ifaces, maps, wideKeys, modest, calm, conditions, laid).
  DERIVED. THE GIVEN ROWS OF THIS SEAT. 12 by the template 'for every input the law returns true; each argument reads behind the call as it read before'; 0 by the template 'total and deterministic' (their statements: YtphkimbhjfjjkaaTotals.lean).
  GIVEN WITH THE SEED: the statements are not yours to turn. If you find one false, say at which input.
  Laid BY PROGRAM, IN A SANDBOX (cutbox-rows.mjs): the forced cells as the released guide's own fill.sh prints them over the translation d930bbe2f8aebd04… (all of the seat's roots in one cut). By AI agents, Wed Nov 11 2026. No macro, syntax, notation, axiom, sorry.
-/
import Derived.Test.YtphkimbhjfjjkaaChecked
import GoSem.Claim
import GoSem.ClaimJoined
import GoSem.ClaimMapViews
import Derived.JoinedTies
import Derived.KernelRfl
namespace Go.Proofs.Ytphkimbhjfjjkaa
/- THE CELL 'sum', in the pinned program and in every row, IS THE sha256 OF THE DUMP (.gsa) THAT YtphkimbhjfjjkaaProg.lean LOADS. Nothing in Lean hashes anything: it is a label: what it is worth is what the hold of that sum in a sandbox is worth. -/
noncomputable def Try.pinned : Pinned := { name := "ytphkimbhjfjjkaa", sum := "d930bbe2f8aebd047392d4aafe897890a9efd4035b148b077ee36ff7bf49f86a", checked := Try.checked }
namespace Rows
def none {H : Type} : Left H := { results := [], args := [] }

/-- 'laws.FnFirstBlock': WHATEVER THE INPUT: true; the input reads as it did. -/
def fnFirstBlockSpec : ChangeSpec := { name := "fnFirstBlock", fn := fun _ => fun
  | [d] => { results := [.lit (.bool true)], args := [d] }
  | _ => none }
def fnFirstBlockRow : OpenClaim := { program := "ytphkimbhjfjjkaa", sum := "d930bbe2f8aebd047392d4aafe897890a9efd4035b148b077ee36ff7bf49f86a", func := "loop.example/blockexecutor/laws.FnFirstBlock", spec := "fnFirstBlock", unfollowed := true, recurses := true, apart := false }
def FnFirstBlockSaid : Prop := fnFirstBlockRow.holds Try.pinned (OpenSpec.ofChange fnFirstBlockSpec)

/-- ITS FALSE NEIGHBOUR: 'it returns false'. Refute it at one input. -/
def fnFirstBlockWrong : ChangeSpec := { name := "fnFirstBlock", fn := fun _ => fun
  | [d] => { results := [.lit (.bool false)], args := [d] }
  | _ => none }
def FnFirstBlockWrongFalsely : Prop := fnFirstBlockRow.holds Try.pinned (OpenSpec.ofChange fnFirstBlockWrong)

/-- 'laws.FnCertValid': WHATEVER THE INPUT: true; the input reads as it did. -/
def fnCertValidSpec : ChangeSpec := { name := "fnCertValid", fn := fun _ => fun
  | [d] => { results := [.lit (.bool true)], args := [d] }
  | _ => none }
def fnCertValidRow : OpenClaim := { program := "ytphkimbhjfjjkaa", sum := "d930bbe2f8aebd047392d4aafe897890a9efd4035b148b077ee36ff7bf49f86a", func := "loop.example/blockexecutor/laws.FnCertValid", spec := "fnCertValid", unfollowed := true, recurses := true, apart := false }
def FnCertValidSaid : Prop := fnCertValidRow.holds Try.pinned (OpenSpec.ofChange fnCertValidSpec)

/-- ITS FALSE NEIGHBOUR: 'it returns false'. Refute it at one input. -/
def fnCertValidWrong : ChangeSpec := { name := "fnCertValid", fn := fun _ => fun
  | [d] => { results := [.lit (.bool false)], args := [d] }
  | _ => none }
def FnCertValidWrongFalsely : Prop := fnCertValidRow.holds Try.pinned (OpenSpec.ofChange fnCertValidWrong)

/-- 'laws.FnTreeOf': WHATEVER THE INPUT: true; the input reads as it did. -/
def fnTreeOfSpec : ChangeSpec := { name := "fnTreeOf", fn := fun _ => fun
  | [d] => { results := [.lit (.bool true)], args := [d] }
  | _ => none }
def fnTreeOfRow : OpenClaim := { program := "ytphkimbhjfjjkaa", sum := "d930bbe2f8aebd047392d4aafe897890a9efd4035b148b077ee36ff7bf49f86a", func := "loop.example/blockexecutor/laws.FnTreeOf", spec := "fnTreeOf", unfollowed := true, recurses := true, apart := false }
def FnTreeOfSaid : Prop := fnTreeOfRow.holds Try.pinned (OpenSpec.ofChange fnTreeOfSpec)

/-- ITS FALSE NEIGHBOUR: 'it returns false'. Refute it at one input. -/
def fnTreeOfWrong : ChangeSpec := { name := "fnTreeOf", fn := fun _ => fun
  | [d] => { results := [.lit (.bool false)], args := [d] }
  | _ => none }
def FnTreeOfWrongFalsely : Prop := fnTreeOfRow.holds Try.pinned (OpenSpec.ofChange fnTreeOfWrong)

/-- 'laws.FnBlockValid': WHATEVER THE INPUT: true; the input reads as it did. -/
def fnBlockValidSpec : ChangeSpec := { name := "fnBlockValid", fn := fun _ => fun
  | [d] => { results := [.lit (.bool true)], args := [d] }
  | _ => none }
def fnBlockValidRow : OpenClaim := { program := "ytphkimbhjfjjkaa", sum := "d930bbe2f8aebd047392d4aafe897890a9efd4035b148b077ee36ff7bf49f86a", func := "loop.example/blockexecutor/laws.FnBlockValid", spec := "fnBlockValid", unfollowed := true, recurses := true, apart := false }
def FnBlockValidSaid : Prop := fnBlockValidRow.holds Try.pinned (OpenSpec.ofChange fnBlockValidSpec)

/-- ITS FALSE NEIGHBOUR: 'it returns false'. Refute it at one input. -/
def fnBlockValidWrong : ChangeSpec := { name := "fnBlockValid", fn := fun _ => fun
  | [d] => { results := [.lit (.bool false)], args := [d] }
  | _ => none }
def FnBlockValidWrongFalsely : Prop := fnBlockValidRow.holds Try.pinned (OpenSpec.ofChange fnBlockValidWrong)

/-- 'laws.FnBlockSum': WHATEVER THE INPUT: true; the input reads as it did. -/
def fnBlockSumSpec : ChangeSpec := { name := "fnBlockSum", fn := fun _ => fun
  | [d] => { results := [.lit (.bool true)], args := [d] }
  | _ => none }
def fnBlockSumRow : OpenClaim := { program := "ytphkimbhjfjjkaa", sum := "d930bbe2f8aebd047392d4aafe897890a9efd4035b148b077ee36ff7bf49f86a", func := "loop.example/blockexecutor/laws.FnBlockSum", spec := "fnBlockSum", unfollowed := true, recurses := true, apart := false }
def FnBlockSumSaid : Prop := fnBlockSumRow.holds Try.pinned (OpenSpec.ofChange fnBlockSumSpec)

/-- ITS FALSE NEIGHBOUR: 'it returns false'. Refute it at one input. -/
def fnBlockSumWrong : ChangeSpec := { name := "fnBlockSum", fn := fun _ => fun
  | [d] => { results := [.lit (.bool false)], args := [d] }
  | _ => none }
def FnBlockSumWrongFalsely : Prop := fnBlockSumRow.holds Try.pinned (OpenSpec.ofChange fnBlockSumWrong)

/-- 'laws.FnCertCounts': WHATEVER THE INPUT: true; the input reads as it did. -/
def fnCertCountsSpec : ChangeSpec := { name := "fnCertCounts", fn := fun _ => fun
  | [d] => { results := [.lit (.bool true)], args := [d] }
  | _ => none }
def fnCertCountsRow : OpenClaim := { program := "ytphkimbhjfjjkaa", sum := "d930bbe2f8aebd047392d4aafe897890a9efd4035b148b077ee36ff7bf49f86a", func := "loop.example/blockexecutor/laws.FnCertCounts", spec := "fnCertCounts", unfollowed := true, recurses := true, apart := false }
def FnCertCountsSaid : Prop := fnCertCountsRow.holds Try.pinned (OpenSpec.ofChange fnCertCountsSpec)

/-- ITS FALSE NEIGHBOUR: 'it returns false'. Refute it at one input. -/
def fnCertCountsWrong : ChangeSpec := { name := "fnCertCounts", fn := fun _ => fun
  | [d] => { results := [.lit (.bool false)], args := [d] }
  | _ => none }
def FnCertCountsWrongFalsely : Prop := fnCertCountsRow.holds Try.pinned (OpenSpec.ofChange fnCertCountsWrong)

/-- 'laws.FnHalfCerts': WHATEVER THE INPUT: true; the input reads as it did. -/
def fnHalfCertsSpec : ChangeSpec := { name := "fnHalfCerts", fn := fun _ => fun
  | [d] => { results := [.lit (.bool true)], args := [d] }
  | _ => none }
def fnHalfCertsRow : OpenClaim := { program := "ytphkimbhjfjjkaa", sum := "d930bbe2f8aebd047392d4aafe897890a9efd4035b148b077ee36ff7bf49f86a", func := "loop.example/blockexecutor/laws.FnHalfCerts", spec := "fnHalfCerts", unfollowed := true, recurses := true, apart := false }
def FnHalfCertsSaid : Prop := fnHalfCertsRow.holds Try.pinned (OpenSpec.ofChange fnHalfCertsSpec)

/-- ITS FALSE NEIGHBOUR: 'it returns false'. Refute it at one input. -/
def fnHalfCertsWrong : ChangeSpec := { name := "fnHalfCerts", fn := fun _ => fun
  | [d] => { results := [.lit (.bool false)], args := [d] }
  | _ => none }
def FnHalfCertsWrongFalsely : Prop := fnHalfCertsRow.holds Try.pinned (OpenSpec.ofChange fnHalfCertsWrong)

/-- 'laws.FnJoinCerts': WHATEVER THE INPUT: true; the input reads as it did. -/
def fnJoinCertsSpec : ChangeSpec := { name := "fnJoinCerts", fn := fun _ => fun
  | [d] => { results := [.lit (.bool true)], args := [d] }
  | _ => none }
def fnJoinCertsRow : OpenClaim := { program := "ytphkimbhjfjjkaa", sum := "d930bbe2f8aebd047392d4aafe897890a9efd4035b148b077ee36ff7bf49f86a", func := "loop.example/blockexecutor/laws.FnJoinCerts", spec := "fnJoinCerts", unfollowed := true, recurses := true, apart := false }
def FnJoinCertsSaid : Prop := fnJoinCertsRow.holds Try.pinned (OpenSpec.ofChange fnJoinCertsSpec)

/-- ITS FALSE NEIGHBOUR: 'it returns false'. Refute it at one input. -/
def fnJoinCertsWrong : ChangeSpec := { name := "fnJoinCerts", fn := fun _ => fun
  | [d] => { results := [.lit (.bool false)], args := [d] }
  | _ => none }
def FnJoinCertsWrongFalsely : Prop := fnJoinCertsRow.holds Try.pinned (OpenSpec.ofChange fnJoinCertsWrong)

/-- 'laws.FnBlockTreeValid': WHATEVER THE INPUT: true; the input reads as it did. -/
def fnBlockTreeValidSpec : ChangeSpec := { name := "fnBlockTreeValid", fn := fun _ => fun
  | [d] => { results := [.lit (.bool true)], args := [d] }
  | _ => none }
def fnBlockTreeValidRow : OpenClaim := { program := "ytphkimbhjfjjkaa", sum := "d930bbe2f8aebd047392d4aafe897890a9efd4035b148b077ee36ff7bf49f86a", func := "loop.example/blockexecutor/laws.FnBlockTreeValid", spec := "fnBlockTreeValid", unfollowed := true, recurses := true, apart := false }
def FnBlockTreeValidSaid : Prop := fnBlockTreeValidRow.holds Try.pinned (OpenSpec.ofChange fnBlockTreeValidSpec)

/-- ITS FALSE NEIGHBOUR: 'it returns false'. Refute it at one input. -/
def fnBlockTreeValidWrong : ChangeSpec := { name := "fnBlockTreeValid", fn := fun _ => fun
  | [d] => { results := [.lit (.bool false)], args := [d] }
  | _ => none }
def FnBlockTreeValidWrongFalsely : Prop := fnBlockTreeValidRow.holds Try.pinned (OpenSpec.ofChange fnBlockTreeValidWrong)

/-- 'laws.FnFindBlock': WHATEVER THE INPUT: true; the input reads as it did. -/
def fnFindBlockSpec : ChangeSpec := { name := "fnFindBlock", fn := fun _ => fun
  | [d] => { results := [.lit (.bool true)], args := [d] }
  | _ => none }
def fnFindBlockRow : OpenClaim := { program := "ytphkimbhjfjjkaa", sum := "d930bbe2f8aebd047392d4aafe897890a9efd4035b148b077ee36ff7bf49f86a", func := "loop.example/blockexecutor/laws.FnFindBlock", spec := "fnFindBlock", unfollowed := true, recurses := true, apart := false }
def FnFindBlockSaid : Prop := fnFindBlockRow.holds Try.pinned (OpenSpec.ofChange fnFindBlockSpec)

/-- ITS FALSE NEIGHBOUR: 'it returns false'. Refute it at one input. -/
def fnFindBlockWrong : ChangeSpec := { name := "fnFindBlock", fn := fun _ => fun
  | [d] => { results := [.lit (.bool false)], args := [d] }
  | _ => none }
def FnFindBlockWrongFalsely : Prop := fnFindBlockRow.holds Try.pinned (OpenSpec.ofChange fnFindBlockWrong)

/-- 'laws.FnIsBefore': WHATEVER THE INPUT: true; the input reads as it did. -/
def fnIsBeforeSpec : ChangeSpec := { name := "fnIsBefore", fn := fun _ => fun
  | [d] => { results := [.lit (.bool true)], args := [d] }
  | _ => none }
def fnIsBeforeRow : OpenClaim := { program := "ytphkimbhjfjjkaa", sum := "d930bbe2f8aebd047392d4aafe897890a9efd4035b148b077ee36ff7bf49f86a", func := "loop.example/blockexecutor/laws.FnIsBefore", spec := "fnIsBefore", unfollowed := true, recurses := true, apart := false }
def FnIsBeforeSaid : Prop := fnIsBeforeRow.holds Try.pinned (OpenSpec.ofChange fnIsBeforeSpec)

/-- ITS FALSE NEIGHBOUR: 'it returns false'. Refute it at one input. -/
def fnIsBeforeWrong : ChangeSpec := { name := "fnIsBefore", fn := fun _ => fun
  | [d] => { results := [.lit (.bool false)], args := [d] }
  | _ => none }
def FnIsBeforeWrongFalsely : Prop := fnIsBeforeRow.holds Try.pinned (OpenSpec.ofChange fnIsBeforeWrong)

/-- 'laws.FnPathTo': WHATEVER THE INPUT: true; the input reads as it did. -/
def fnPathToSpec : ChangeSpec := { name := "fnPathTo", fn := fun _ => fun
  | [d] => { results := [.lit (.bool true)], args := [d] }
  | _ => none }
def fnPathToRow : OpenClaim := { program := "ytphkimbhjfjjkaa", sum := "d930bbe2f8aebd047392d4aafe897890a9efd4035b148b077ee36ff7bf49f86a", func := "loop.example/blockexecutor/laws.FnPathTo", spec := "fnPathTo", unfollowed := true, recurses := true, apart := false }
def FnPathToSaid : Prop := fnPathToRow.holds Try.pinned (OpenSpec.ofChange fnPathToSpec)

/-- ITS FALSE NEIGHBOUR: 'it returns false'. Refute it at one input. -/
def fnPathToWrong : ChangeSpec := { name := "fnPathTo", fn := fun _ => fun
  | [d] => { results := [.lit (.bool false)], args := [d] }
  | _ => none }
def FnPathToWrongFalsely : Prop := fnPathToRow.holds Try.pinned (OpenSpec.ofChange fnPathToWrong)

/- THE SECOND FORM. 'bulk': how many values and letters a reading holds, each counted each time it is reached (what is shared counts as often as it is met; a slice's spare places count too). A statement '..UptoSaid' is the law's where the arguments, and the package variables that the reading takes, are together of bulk at most 1048576: NARROWER than '..Said'. Prove '..Said' where nothing that the law and all that it calls make is longer than what came in: it says more and counts as full. Else prove '..UptoSaid'. A law counts once. -/
mutual
def uptoBulk {H : Type} : DataW H → Nat
  | .lit (.string bytes) => bytes.length + 1
  | .lit _ => 1
  | .nil => 1
  | .ptr d => uptoBulk d + 1
  | .slice elems spare => uptoBulkAll elems + uptoBulkAll spare + 1
  | .agg parts => uptoBulkAll parts + 1
  | .iface _ d => uptoBulk d + 1
  | .map entries => uptoBulkEntries entries + 1
  | .held _ => 1
def uptoBulkAll {H : Type} : List (DataW H) → Nat
  | [] => 0
  | d :: r => uptoBulk d + uptoBulkAll r
def uptoBulkEntries {H : Type} : List (Lit × DataW H) → Nat
  | [] => 0
  | x :: r => uptoBulkEntry x + uptoBulkEntries r
def uptoBulkEntry {H : Type} : Lit × DataW H → Nat
  | (.string bytes, d) => bytes.length + uptoBulk d + 1
  | (_, d) => uptoBulk d + 1
 end
def uptoSmall : (H : Type) → List (DataW H) → Bool := fun _ ds => decide (uptoBulkAll ds ≤ 1048576)
def OpenSpec.upto (s : _root_.Go.ChangeSpec) : _root_.Go.OpenSpec := { _root_.Go.OpenSpec.ofChange s with cond := some uptoSmall }

/-- 'laws.FnFirstBlock', WHERE WHAT IT READS IS OF BULK AT MOST 1048576: true; the input reads as it did. -/
def fnFirstBlockUptoRow : OpenClaim := { program := "ytphkimbhjfjjkaa", sum := "d930bbe2f8aebd047392d4aafe897890a9efd4035b148b077ee36ff7bf49f86a", func := "loop.example/blockexecutor/laws.FnFirstBlock", spec := "fnFirstBlock", unfollowed := true, recurses := true, apart := false, narrowed := true }
def FnFirstBlockUptoSaid : Prop := fnFirstBlockUptoRow.holds Try.pinned (OpenSpec.upto fnFirstBlockSpec)

/-- 'laws.FnCertValid', WHERE WHAT IT READS IS OF BULK AT MOST 1048576: true; the input reads as it did. -/
def fnCertValidUptoRow : OpenClaim := { program := "ytphkimbhjfjjkaa", sum := "d930bbe2f8aebd047392d4aafe897890a9efd4035b148b077ee36ff7bf49f86a", func := "loop.example/blockexecutor/laws.FnCertValid", spec := "fnCertValid", unfollowed := true, recurses := true, apart := false, narrowed := true }
def FnCertValidUptoSaid : Prop := fnCertValidUptoRow.holds Try.pinned (OpenSpec.upto fnCertValidSpec)

/-- 'laws.FnTreeOf', WHERE WHAT IT READS IS OF BULK AT MOST 1048576: true; the input reads as it did. -/
def fnTreeOfUptoRow : OpenClaim := { program := "ytphkimbhjfjjkaa", sum := "d930bbe2f8aebd047392d4aafe897890a9efd4035b148b077ee36ff7bf49f86a", func := "loop.example/blockexecutor/laws.FnTreeOf", spec := "fnTreeOf", unfollowed := true, recurses := true, apart := false, narrowed := true }
def FnTreeOfUptoSaid : Prop := fnTreeOfUptoRow.holds Try.pinned (OpenSpec.upto fnTreeOfSpec)

/-- 'laws.FnBlockValid', WHERE WHAT IT READS IS OF BULK AT MOST 1048576: true; the input reads as it did. -/
def fnBlockValidUptoRow : OpenClaim := { program := "ytphkimbhjfjjkaa", sum := "d930bbe2f8aebd047392d4aafe897890a9efd4035b148b077ee36ff7bf49f86a", func := "loop.example/blockexecutor/laws.FnBlockValid", spec := "fnBlockValid", unfollowed := true, recurses := true, apart := false, narrowed := true }
def FnBlockValidUptoSaid : Prop := fnBlockValidUptoRow.holds Try.pinned (OpenSpec.upto fnBlockValidSpec)

/-- 'laws.FnBlockSum', WHERE WHAT IT READS IS OF BULK AT MOST 1048576: true; the input reads as it did. -/
def fnBlockSumUptoRow : OpenClaim := { program := "ytphkimbhjfjjkaa", sum := "d930bbe2f8aebd047392d4aafe897890a9efd4035b148b077ee36ff7bf49f86a", func := "loop.example/blockexecutor/laws.FnBlockSum", spec := "fnBlockSum", unfollowed := true, recurses := true, apart := false, narrowed := true }
def FnBlockSumUptoSaid : Prop := fnBlockSumUptoRow.holds Try.pinned (OpenSpec.upto fnBlockSumSpec)

/-- 'laws.FnCertCounts', WHERE WHAT IT READS IS OF BULK AT MOST 1048576: true; the input reads as it did. -/
def fnCertCountsUptoRow : OpenClaim := { program := "ytphkimbhjfjjkaa", sum := "d930bbe2f8aebd047392d4aafe897890a9efd4035b148b077ee36ff7bf49f86a", func := "loop.example/blockexecutor/laws.FnCertCounts", spec := "fnCertCounts", unfollowed := true, recurses := true, apart := false, narrowed := true }
def FnCertCountsUptoSaid : Prop := fnCertCountsUptoRow.holds Try.pinned (OpenSpec.upto fnCertCountsSpec)

/-- 'laws.FnHalfCerts', WHERE WHAT IT READS IS OF BULK AT MOST 1048576: true; the input reads as it did. -/
def fnHalfCertsUptoRow : OpenClaim := { program := "ytphkimbhjfjjkaa", sum := "d930bbe2f8aebd047392d4aafe897890a9efd4035b148b077ee36ff7bf49f86a", func := "loop.example/blockexecutor/laws.FnHalfCerts", spec := "fnHalfCerts", unfollowed := true, recurses := true, apart := false, narrowed := true }
def FnHalfCertsUptoSaid : Prop := fnHalfCertsUptoRow.holds Try.pinned (OpenSpec.upto fnHalfCertsSpec)

/-- 'laws.FnJoinCerts', WHERE WHAT IT READS IS OF BULK AT MOST 1048576: true; the input reads as it did. -/
def fnJoinCertsUptoRow : OpenClaim := { program := "ytphkimbhjfjjkaa", sum := "d930bbe2f8aebd047392d4aafe897890a9efd4035b148b077ee36ff7bf49f86a", func := "loop.example/blockexecutor/laws.FnJoinCerts", spec := "fnJoinCerts", unfollowed := true, recurses := true, apart := false, narrowed := true }
def FnJoinCertsUptoSaid : Prop := fnJoinCertsUptoRow.holds Try.pinned (OpenSpec.upto fnJoinCertsSpec)

/-- 'laws.FnBlockTreeValid', WHERE WHAT IT READS IS OF BULK AT MOST 1048576: true; the input reads as it did. -/
def fnBlockTreeValidUptoRow : OpenClaim := { program := "ytphkimbhjfjjkaa", sum := "d930bbe2f8aebd047392d4aafe897890a9efd4035b148b077ee36ff7bf49f86a", func := "loop.example/blockexecutor/laws.FnBlockTreeValid", spec := "fnBlockTreeValid", unfollowed := true, recurses := true, apart := false, narrowed := true }
def FnBlockTreeValidUptoSaid : Prop := fnBlockTreeValidUptoRow.holds Try.pinned (OpenSpec.upto fnBlockTreeValidSpec)

/-- 'laws.FnFindBlock', WHERE WHAT IT READS IS OF BULK AT MOST 1048576: true; the input reads as it did. -/
def fnFindBlockUptoRow : OpenClaim := { program := "ytphkimbhjfjjkaa", sum := "d930bbe2f8aebd047392d4aafe897890a9efd4035b148b077ee36ff7bf49f86a", func := "loop.example/blockexecutor/laws.FnFindBlock", spec := "fnFindBlock", unfollowed := true, recurses := true, apart := false, narrowed := true }
def FnFindBlockUptoSaid : Prop := fnFindBlockUptoRow.holds Try.pinned (OpenSpec.upto fnFindBlockSpec)

/-- 'laws.FnIsBefore', WHERE WHAT IT READS IS OF BULK AT MOST 1048576: true; the input reads as it did. -/
def fnIsBeforeUptoRow : OpenClaim := { program := "ytphkimbhjfjjkaa", sum := "d930bbe2f8aebd047392d4aafe897890a9efd4035b148b077ee36ff7bf49f86a", func := "loop.example/blockexecutor/laws.FnIsBefore", spec := "fnIsBefore", unfollowed := true, recurses := true, apart := false, narrowed := true }
def FnIsBeforeUptoSaid : Prop := fnIsBeforeUptoRow.holds Try.pinned (OpenSpec.upto fnIsBeforeSpec)

/-- 'laws.FnPathTo', WHERE WHAT IT READS IS OF BULK AT MOST 1048576: true; the input reads as it did. -/
def fnPathToUptoRow : OpenClaim := { program := "ytphkimbhjfjjkaa", sum := "d930bbe2f8aebd047392d4aafe897890a9efd4035b148b077ee36ff7bf49f86a", func := "loop.example/blockexecutor/laws.FnPathTo", spec := "fnPathTo", unfollowed := true, recurses := true, apart := false, narrowed := true }
def FnPathToUptoSaid : Prop := fnPathToUptoRow.holds Try.pinned (OpenSpec.upto fnPathToSpec)

end Rows
end Go.Proofs.Ytphkimbhjfjjkaa
