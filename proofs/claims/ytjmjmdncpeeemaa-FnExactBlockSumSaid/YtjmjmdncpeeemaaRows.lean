/-
  No cell of these rows narrows 'for every input' (looked for: loops, veiled, ifaces, maps, wideKeys, modest, calm, conditions, laid).
  DERIVED. THE GIVEN ROWS OF THIS SEAT. 12 by the template 'for every input the law returns true; each argument reads behind the call as it read before'; 0 by the template 'total and deterministic' (their statements: YtjmjmdncpeeemaaTotals.lean).
  GIVEN WITH THE SEED: the statements are not yours to turn. If you find one false, say at which input.
  Laid BY PROGRAM, IN A SANDBOX (cutbox-rows.mjs): the forced cells as the released guide's own fill.sh prints them over the translation 4c3ab35e2115ec71… (all of the seat's roots in one cut). By AI agents, Wed Nov 11 2026. No macro, syntax, notation, axiom, sorry.
-/
import Derived.Test.YtjmjmdncpeeemaaChecked
import GoSem.Claim
import GoSem.ClaimJoined
import GoSem.ClaimMapViews
import Derived.JoinedTies
import Derived.KernelRfl
namespace Go.Proofs.Ytjmjmdncpeeemaa
/- THE CELL 'sum', in the pinned program and in every row, IS THE sha256 OF THE DUMP (.gsa) THAT YtjmjmdncpeeemaaProg.lean LOADS. Nothing in Lean hashes anything: it is a label: what it is worth is what the hold of that sum in a sandbox is worth. -/
noncomputable def Try.pinned : Pinned := { name := "ytjmjmdncpeeemaa", sum := "4c3ab35e2115ec7115fe0fa0f1ae4a08839e861db955c455ac0062bf62630b43", checked := Try.checked }
namespace Rows
def none {H : Type} : Left H := { results := [], args := [] }

/-- 'laws.FnExactCertValid': WHATEVER THE INPUT: true; the input reads as it did. -/
def fnExactCertValidSpec : ChangeSpec := { name := "fnExactCertValid", fn := fun _ => fun
  | [d] => { results := [.lit (.bool true)], args := [d] }
  | _ => none }
def fnExactCertValidRow : OpenClaim := { program := "ytjmjmdncpeeemaa", sum := "4c3ab35e2115ec7115fe0fa0f1ae4a08839e861db955c455ac0062bf62630b43", func := "loop.example/blockexecutor/laws.FnExactCertValid", spec := "fnExactCertValid", apart := false }
def FnExactCertValidSaid : Prop := fnExactCertValidRow.holds Try.pinned (OpenSpec.ofChange fnExactCertValidSpec)

/-- ITS FALSE NEIGHBOUR: 'it returns false'. Refute it at one input. -/
def fnExactCertValidWrong : ChangeSpec := { name := "fnExactCertValid", fn := fun _ => fun
  | [d] => { results := [.lit (.bool false)], args := [d] }
  | _ => none }
def FnExactCertValidWrongFalsely : Prop := fnExactCertValidRow.holds Try.pinned (OpenSpec.ofChange fnExactCertValidWrong)

/-- 'laws.FnExactJoinCerts': WHATEVER THE INPUT: true; the input reads as it did. -/
def fnExactJoinCertsSpec : ChangeSpec := { name := "fnExactJoinCerts", fn := fun _ => fun
  | [d1, d2] => { results := [.lit (.bool true)], args := [d1, d2] }
  | _ => none }
def fnExactJoinCertsRow : OpenClaim := { program := "ytjmjmdncpeeemaa", sum := "4c3ab35e2115ec7115fe0fa0f1ae4a08839e861db955c455ac0062bf62630b43", func := "loop.example/blockexecutor/laws.FnExactJoinCerts", spec := "fnExactJoinCerts", apart := false }
def FnExactJoinCertsSaid : Prop := fnExactJoinCertsRow.holds Try.pinned (OpenSpec.ofChange fnExactJoinCertsSpec)

/-- ITS FALSE NEIGHBOUR: 'it returns false'. Refute it at one input. -/
def fnExactJoinCertsWrong : ChangeSpec := { name := "fnExactJoinCerts", fn := fun _ => fun
  | [d1, d2] => { results := [.lit (.bool false)], args := [d1, d2] }
  | _ => none }
def FnExactJoinCertsWrongFalsely : Prop := fnExactJoinCertsRow.holds Try.pinned (OpenSpec.ofChange fnExactJoinCertsWrong)

/-- 'laws.FnExactCertCounts': WHATEVER THE INPUT: true; the input reads as it did. -/
def fnExactCertCountsSpec : ChangeSpec := { name := "fnExactCertCounts", fn := fun _ => fun
  | [d] => { results := [.lit (.bool true)], args := [d] }
  | _ => none }
def fnExactCertCountsRow : OpenClaim := { program := "ytjmjmdncpeeemaa", sum := "4c3ab35e2115ec7115fe0fa0f1ae4a08839e861db955c455ac0062bf62630b43", func := "loop.example/blockexecutor/laws.FnExactCertCounts", spec := "fnExactCertCounts", apart := false }
def FnExactCertCountsSaid : Prop := fnExactCertCountsRow.holds Try.pinned (OpenSpec.ofChange fnExactCertCountsSpec)

/-- ITS FALSE NEIGHBOUR: 'it returns false'. Refute it at one input. -/
def fnExactCertCountsWrong : ChangeSpec := { name := "fnExactCertCounts", fn := fun _ => fun
  | [d] => { results := [.lit (.bool false)], args := [d] }
  | _ => none }
def FnExactCertCountsWrongFalsely : Prop := fnExactCertCountsRow.holds Try.pinned (OpenSpec.ofChange fnExactCertCountsWrong)

/-- 'laws.FnExactVersionsValid': WHATEVER THE INPUT: true; the input reads as it did. -/
def fnExactVersionsValidSpec : ChangeSpec := { name := "fnExactVersionsValid", fn := fun _ => fun
  | [d] => { results := [.lit (.bool true)], args := [d] }
  | _ => none }
def fnExactVersionsValidRow : OpenClaim := { program := "ytjmjmdncpeeemaa", sum := "4c3ab35e2115ec7115fe0fa0f1ae4a08839e861db955c455ac0062bf62630b43", func := "loop.example/blockexecutor/laws.FnExactVersionsValid", spec := "fnExactVersionsValid", apart := false }
def FnExactVersionsValidSaid : Prop := fnExactVersionsValidRow.holds Try.pinned (OpenSpec.ofChange fnExactVersionsValidSpec)

/-- ITS FALSE NEIGHBOUR: 'it returns false'. Refute it at one input. -/
def fnExactVersionsValidWrong : ChangeSpec := { name := "fnExactVersionsValid", fn := fun _ => fun
  | [d] => { results := [.lit (.bool false)], args := [d] }
  | _ => none }
def FnExactVersionsValidWrongFalsely : Prop := fnExactVersionsValidRow.holds Try.pinned (OpenSpec.ofChange fnExactVersionsValidWrong)

/-- 'laws.FnExactConflict': WHATEVER THE INPUT: true; the input reads as it did. -/
def fnExactConflictSpec : ChangeSpec := { name := "fnExactConflict", fn := fun _ => fun
  | [d1, d2] => { results := [.lit (.bool true)], args := [d1, d2] }
  | _ => none }
def fnExactConflictRow : OpenClaim := { program := "ytjmjmdncpeeemaa", sum := "4c3ab35e2115ec7115fe0fa0f1ae4a08839e861db955c455ac0062bf62630b43", func := "loop.example/blockexecutor/laws.FnExactConflict", spec := "fnExactConflict", apart := false }
def FnExactConflictSaid : Prop := fnExactConflictRow.holds Try.pinned (OpenSpec.ofChange fnExactConflictSpec)

/-- ITS FALSE NEIGHBOUR: 'it returns false'. Refute it at one input. -/
def fnExactConflictWrong : ChangeSpec := { name := "fnExactConflict", fn := fun _ => fun
  | [d1, d2] => { results := [.lit (.bool false)], args := [d1, d2] }
  | _ => none }
def FnExactConflictWrongFalsely : Prop := fnExactConflictRow.holds Try.pinned (OpenSpec.ofChange fnExactConflictWrong)

/-- 'laws.FnExactDropVersions': WHATEVER THE INPUT: true; the input reads as it did. -/
def fnExactDropVersionsSpec : ChangeSpec := { name := "fnExactDropVersions", fn := fun _ => fun
  | [d1, d2] => { results := [.lit (.bool true)], args := [d1, d2] }
  | _ => none }
def fnExactDropVersionsRow : OpenClaim := { program := "ytjmjmdncpeeemaa", sum := "4c3ab35e2115ec7115fe0fa0f1ae4a08839e861db955c455ac0062bf62630b43", func := "loop.example/blockexecutor/laws.FnExactDropVersions", spec := "fnExactDropVersions", apart := false }
def FnExactDropVersionsSaid : Prop := fnExactDropVersionsRow.holds Try.pinned (OpenSpec.ofChange fnExactDropVersionsSpec)

/-- ITS FALSE NEIGHBOUR: 'it returns false'. Refute it at one input. -/
def fnExactDropVersionsWrong : ChangeSpec := { name := "fnExactDropVersions", fn := fun _ => fun
  | [d1, d2] => { results := [.lit (.bool false)], args := [d1, d2] }
  | _ => none }
def FnExactDropVersionsWrongFalsely : Prop := fnExactDropVersionsRow.holds Try.pinned (OpenSpec.ofChange fnExactDropVersionsWrong)

/-- 'laws.FnExactBlockValid': WHATEVER THE INPUT: true; the input reads as it did. -/
def fnExactBlockValidSpec : ChangeSpec := { name := "fnExactBlockValid", fn := fun _ => fun
  | [d] => { results := [.lit (.bool true)], args := [d] }
  | _ => none }
def fnExactBlockValidRow : OpenClaim := { program := "ytjmjmdncpeeemaa", sum := "4c3ab35e2115ec7115fe0fa0f1ae4a08839e861db955c455ac0062bf62630b43", func := "loop.example/blockexecutor/laws.FnExactBlockValid", spec := "fnExactBlockValid", unfollowed := true, recurses := true, apart := false }
def FnExactBlockValidSaid : Prop := fnExactBlockValidRow.holds Try.pinned (OpenSpec.ofChange fnExactBlockValidSpec)

/-- ITS FALSE NEIGHBOUR: 'it returns false'. Refute it at one input. -/
def fnExactBlockValidWrong : ChangeSpec := { name := "fnExactBlockValid", fn := fun _ => fun
  | [d] => { results := [.lit (.bool false)], args := [d] }
  | _ => none }
def FnExactBlockValidWrongFalsely : Prop := fnExactBlockValidRow.holds Try.pinned (OpenSpec.ofChange fnExactBlockValidWrong)

/-- 'laws.FnConflictSelf': WHATEVER THE INPUT: true; the input reads as it did. -/
def fnConflictSelfSpec : ChangeSpec := { name := "fnConflictSelf", fn := fun _ => fun
  | [d] => { results := [.lit (.bool true)], args := [d] }
  | _ => none }
def fnConflictSelfRow : OpenClaim := { program := "ytjmjmdncpeeemaa", sum := "4c3ab35e2115ec7115fe0fa0f1ae4a08839e861db955c455ac0062bf62630b43", func := "loop.example/blockexecutor/laws.FnConflictSelf", spec := "fnConflictSelf", unfollowed := true, recurses := true, apart := false }
def FnConflictSelfSaid : Prop := fnConflictSelfRow.holds Try.pinned (OpenSpec.ofChange fnConflictSelfSpec)

/-- ITS FALSE NEIGHBOUR: 'it returns false'. Refute it at one input. -/
def fnConflictSelfWrong : ChangeSpec := { name := "fnConflictSelf", fn := fun _ => fun
  | [d] => { results := [.lit (.bool false)], args := [d] }
  | _ => none }
def FnConflictSelfWrongFalsely : Prop := fnConflictSelfRow.holds Try.pinned (OpenSpec.ofChange fnConflictSelfWrong)

/-- 'laws.FnExactReadVersion': WHATEVER THE INPUT: true; the input reads as it did. -/
def fnExactReadVersionSpec : ChangeSpec := { name := "fnExactReadVersion", fn := fun _ => fun
  | [d1, d2, d3, d4] => { results := [.lit (.bool true)], args := [d1, d2, d3, d4] }
  | _ => none }
def fnExactReadVersionRow : OpenClaim := { program := "ytjmjmdncpeeemaa", sum := "4c3ab35e2115ec7115fe0fa0f1ae4a08839e861db955c455ac0062bf62630b43", func := "loop.example/blockexecutor/laws.FnExactReadVersion", spec := "fnExactReadVersion", apart := false }
def FnExactReadVersionSaid : Prop := fnExactReadVersionRow.holds Try.pinned (OpenSpec.ofChange fnExactReadVersionSpec)

/-- ITS FALSE NEIGHBOUR: 'it returns false'. Refute it at one input. -/
def fnExactReadVersionWrong : ChangeSpec := { name := "fnExactReadVersion", fn := fun _ => fun
  | [d1, d2, d3, d4] => { results := [.lit (.bool false)], args := [d1, d2, d3, d4] }
  | _ => none }
def FnExactReadVersionWrongFalsely : Prop := fnExactReadVersionRow.holds Try.pinned (OpenSpec.ofChange fnExactReadVersionWrong)

/-- 'laws.FnExactBlockSum': WHATEVER THE INPUT: true; the input reads as it did. -/
def fnExactBlockSumSpec : ChangeSpec := { name := "fnExactBlockSum", fn := fun _ => fun
  | [d] => { results := [.lit (.bool true)], args := [d] }
  | _ => none }
def fnExactBlockSumRow : OpenClaim := { program := "ytjmjmdncpeeemaa", sum := "4c3ab35e2115ec7115fe0fa0f1ae4a08839e861db955c455ac0062bf62630b43", func := "loop.example/blockexecutor/laws.FnExactBlockSum", spec := "fnExactBlockSum", unfollowed := true, recurses := true, apart := false }
def FnExactBlockSumSaid : Prop := fnExactBlockSumRow.holds Try.pinned (OpenSpec.ofChange fnExactBlockSumSpec)

/-- ITS FALSE NEIGHBOUR: 'it returns false'. Refute it at one input. -/
def fnExactBlockSumWrong : ChangeSpec := { name := "fnExactBlockSum", fn := fun _ => fun
  | [d] => { results := [.lit (.bool false)], args := [d] }
  | _ => none }
def FnExactBlockSumWrongFalsely : Prop := fnExactBlockSumRow.holds Try.pinned (OpenSpec.ofChange fnExactBlockSumWrong)

/-- 'laws.FnExactOrderFits': WHATEVER THE INPUT: true; the input reads as it did. -/
def fnExactOrderFitsSpec : ChangeSpec := { name := "fnExactOrderFits", fn := fun _ => fun
  | [d1, d2] => { results := [.lit (.bool true)], args := [d1, d2] }
  | _ => none }
def fnExactOrderFitsRow : OpenClaim := { program := "ytjmjmdncpeeemaa", sum := "4c3ab35e2115ec7115fe0fa0f1ae4a08839e861db955c455ac0062bf62630b43", func := "loop.example/blockexecutor/laws.FnExactOrderFits", spec := "fnExactOrderFits", unfollowed := true, recurses := true, apart := false }
def FnExactOrderFitsSaid : Prop := fnExactOrderFitsRow.holds Try.pinned (OpenSpec.ofChange fnExactOrderFitsSpec)

/-- ITS FALSE NEIGHBOUR: 'it returns false'. Refute it at one input. -/
def fnExactOrderFitsWrong : ChangeSpec := { name := "fnExactOrderFits", fn := fun _ => fun
  | [d1, d2] => { results := [.lit (.bool false)], args := [d1, d2] }
  | _ => none }
def FnExactOrderFitsWrongFalsely : Prop := fnExactOrderFitsRow.holds Try.pinned (OpenSpec.ofChange fnExactOrderFitsWrong)

/-- 'laws.FnExactLastVersions': WHATEVER THE INPUT: true; the input reads as it did. -/
def fnExactLastVersionsSpec : ChangeSpec := { name := "fnExactLastVersions", fn := fun _ => fun
  | [d1, d2] => { results := [.lit (.bool true)], args := [d1, d2] }
  | _ => none }
def fnExactLastVersionsRow : OpenClaim := { program := "ytjmjmdncpeeemaa", sum := "4c3ab35e2115ec7115fe0fa0f1ae4a08839e861db955c455ac0062bf62630b43", func := "loop.example/blockexecutor/laws.FnExactLastVersions", spec := "fnExactLastVersions", apart := false }
def FnExactLastVersionsSaid : Prop := fnExactLastVersionsRow.holds Try.pinned (OpenSpec.ofChange fnExactLastVersionsSpec)

/-- ITS FALSE NEIGHBOUR: 'it returns false'. Refute it at one input. -/
def fnExactLastVersionsWrong : ChangeSpec := { name := "fnExactLastVersions", fn := fun _ => fun
  | [d1, d2] => { results := [.lit (.bool false)], args := [d1, d2] }
  | _ => none }
def FnExactLastVersionsWrongFalsely : Prop := fnExactLastVersionsRow.holds Try.pinned (OpenSpec.ofChange fnExactLastVersionsWrong)

/- THE SECOND FORM. 'bulk': how many values and letters a reading holds, each counted each time it is reached (what is shared counts as often as it is met; a slice's spare places count too). A statement '..UptoSaid' is the law's where the arguments, and the package variables that the reading takes, are together of bulk at most 1048576: NARROWER than '..Said'. Prove '..Said' where nothing that the law and all that it calls make is longer than what came in: it says more and counts as full. Else prove '..UptoSaid'. A law counts once. -/
mutual
def uptoBulk {H : Type} : DataW H → Nat
  | .lit (.string bytes) => bytes.length + 1
  | .lit _ => 1
  | .nil => 1
  | .ptr d => uptoBulk d + 1
  | .slice elems spare => uptoBulkAll elems + uptoBulkAll spare + 1
  | .agg parts => uptoBulkAll parts + 1
  | .iface _ d => uptoBulk d + 1
  | .map entries => uptoBulkEntries entries + 1
  | .held _ => 1
def uptoBulkAll {H : Type} : List (DataW H) → Nat
  | [] => 0
  | d :: r => uptoBulk d + uptoBulkAll r
def uptoBulkEntries {H : Type} : List (Lit × DataW H) → Nat
  | [] => 0
  | x :: r => uptoBulkEntry x + uptoBulkEntries r
def uptoBulkEntry {H : Type} : Lit × DataW H → Nat
  | (.string bytes, d) => bytes.length + uptoBulk d + 1
  | (_, d) => uptoBulk d + 1
 end
def uptoSmall : (H : Type) → List (DataW H) → Bool := fun _ ds => decide (uptoBulkAll ds ≤ 1048576)
def OpenSpec.upto (s : _root_.Go.ChangeSpec) : _root_.Go.OpenSpec := { _root_.Go.OpenSpec.ofChange s with cond := some uptoSmall }

/-- 'laws.FnExactCertValid', WHERE WHAT IT READS IS OF BULK AT MOST 1048576: true; the input reads as it did. -/
def fnExactCertValidUptoRow : OpenClaim := { program := "ytjmjmdncpeeemaa", sum := "4c3ab35e2115ec7115fe0fa0f1ae4a08839e861db955c455ac0062bf62630b43", func := "loop.example/blockexecutor/laws.FnExactCertValid", spec := "fnExactCertValid", apart := false, narrowed := true }
def FnExactCertValidUptoSaid : Prop := fnExactCertValidUptoRow.holds Try.pinned (OpenSpec.upto fnExactCertValidSpec)

/-- 'laws.FnExactJoinCerts', WHERE WHAT IT READS IS OF BULK AT MOST 1048576: true; the input reads as it did. -/
def fnExactJoinCertsUptoRow : OpenClaim := { program := "ytjmjmdncpeeemaa", sum := "4c3ab35e2115ec7115fe0fa0f1ae4a08839e861db955c455ac0062bf62630b43", func := "loop.example/blockexecutor/laws.FnExactJoinCerts", spec := "fnExactJoinCerts", apart := false, narrowed := true }
def FnExactJoinCertsUptoSaid : Prop := fnExactJoinCertsUptoRow.holds Try.pinned (OpenSpec.upto fnExactJoinCertsSpec)

/-- 'laws.FnExactCertCounts', WHERE WHAT IT READS IS OF BULK AT MOST 1048576: true; the input reads as it did. -/
def fnExactCertCountsUptoRow : OpenClaim := { program := "ytjmjmdncpeeemaa", sum := "4c3ab35e2115ec7115fe0fa0f1ae4a08839e861db955c455ac0062bf62630b43", func := "loop.example/blockexecutor/laws.FnExactCertCounts", spec := "fnExactCertCounts", apart := false, narrowed := true }
def FnExactCertCountsUptoSaid : Prop := fnExactCertCountsUptoRow.holds Try.pinned (OpenSpec.upto fnExactCertCountsSpec)

/-- 'laws.FnExactVersionsValid', WHERE WHAT IT READS IS OF BULK AT MOST 1048576: true; the input reads as it did. -/
def fnExactVersionsValidUptoRow : OpenClaim := { program := "ytjmjmdncpeeemaa", sum := "4c3ab35e2115ec7115fe0fa0f1ae4a08839e861db955c455ac0062bf62630b43", func := "loop.example/blockexecutor/laws.FnExactVersionsValid", spec := "fnExactVersionsValid", apart := false, narrowed := true }
def FnExactVersionsValidUptoSaid : Prop := fnExactVersionsValidUptoRow.holds Try.pinned (OpenSpec.upto fnExactVersionsValidSpec)

/-- 'laws.FnExactConflict', WHERE WHAT IT READS IS OF BULK AT MOST 1048576: true; the input reads as it did. -/
def fnExactConflictUptoRow : OpenClaim := { program := "ytjmjmdncpeeemaa", sum := "4c3ab35e2115ec7115fe0fa0f1ae4a08839e861db955c455ac0062bf62630b43", func := "loop.example/blockexecutor/laws.FnExactConflict", spec := "fnExactConflict", apart := false, narrowed := true }
def FnExactConflictUptoSaid : Prop := fnExactConflictUptoRow.holds Try.pinned (OpenSpec.upto fnExactConflictSpec)

/-- 'laws.FnExactDropVersions', WHERE WHAT IT READS IS OF BULK AT MOST 1048576: true; the input reads as it did. -/
def fnExactDropVersionsUptoRow : OpenClaim := { program := "ytjmjmdncpeeemaa", sum := "4c3ab35e2115ec7115fe0fa0f1ae4a08839e861db955c455ac0062bf62630b43", func := "loop.example/blockexecutor/laws.FnExactDropVersions", spec := "fnExactDropVersions", apart := false, narrowed := true }
def FnExactDropVersionsUptoSaid : Prop := fnExactDropVersionsUptoRow.holds Try.pinned (OpenSpec.upto fnExactDropVersionsSpec)

/-- 'laws.FnExactBlockValid', WHERE WHAT IT READS IS OF BULK AT MOST 1048576: true; the input reads as it did. -/
def fnExactBlockValidUptoRow : OpenClaim := { program := "ytjmjmdncpeeemaa", sum := "4c3ab35e2115ec7115fe0fa0f1ae4a08839e861db955c455ac0062bf62630b43", func := "loop.example/blockexecutor/laws.FnExactBlockValid", spec := "fnExactBlockValid", unfollowed := true, recurses := true, apart := false, narrowed := true }
def FnExactBlockValidUptoSaid : Prop := fnExactBlockValidUptoRow.holds Try.pinned (OpenSpec.upto fnExactBlockValidSpec)

/-- 'laws.FnConflictSelf', WHERE WHAT IT READS IS OF BULK AT MOST 1048576: true; the input reads as it did. -/
def fnConflictSelfUptoRow : OpenClaim := { program := "ytjmjmdncpeeemaa", sum := "4c3ab35e2115ec7115fe0fa0f1ae4a08839e861db955c455ac0062bf62630b43", func := "loop.example/blockexecutor/laws.FnConflictSelf", spec := "fnConflictSelf", unfollowed := true, recurses := true, apart := false, narrowed := true }
def FnConflictSelfUptoSaid : Prop := fnConflictSelfUptoRow.holds Try.pinned (OpenSpec.upto fnConflictSelfSpec)

/-- 'laws.FnExactReadVersion', WHERE WHAT IT READS IS OF BULK AT MOST 1048576: true; the input reads as it did. -/
def fnExactReadVersionUptoRow : OpenClaim := { program := "ytjmjmdncpeeemaa", sum := "4c3ab35e2115ec7115fe0fa0f1ae4a08839e861db955c455ac0062bf62630b43", func := "loop.example/blockexecutor/laws.FnExactReadVersion", spec := "fnExactReadVersion", apart := false, narrowed := true }
def FnExactReadVersionUptoSaid : Prop := fnExactReadVersionUptoRow.holds Try.pinned (OpenSpec.upto fnExactReadVersionSpec)

/-- 'laws.FnExactBlockSum', WHERE WHAT IT READS IS OF BULK AT MOST 1048576: true; the input reads as it did. -/
def fnExactBlockSumUptoRow : OpenClaim := { program := "ytjmjmdncpeeemaa", sum := "4c3ab35e2115ec7115fe0fa0f1ae4a08839e861db955c455ac0062bf62630b43", func := "loop.example/blockexecutor/laws.FnExactBlockSum", spec := "fnExactBlockSum", unfollowed := true, recurses := true, apart := false, narrowed := true }
def FnExactBlockSumUptoSaid : Prop := fnExactBlockSumUptoRow.holds Try.pinned (OpenSpec.upto fnExactBlockSumSpec)

/-- 'laws.FnExactOrderFits', WHERE WHAT IT READS IS OF BULK AT MOST 1048576: true; the input reads as it did. -/
def fnExactOrderFitsUptoRow : OpenClaim := { program := "ytjmjmdncpeeemaa", sum := "4c3ab35e2115ec7115fe0fa0f1ae4a08839e861db955c455ac0062bf62630b43", func := "loop.example/blockexecutor/laws.FnExactOrderFits", spec := "fnExactOrderFits", unfollowed := true, recurses := true, apart := false, narrowed := true }
def FnExactOrderFitsUptoSaid : Prop := fnExactOrderFitsUptoRow.holds Try.pinned (OpenSpec.upto fnExactOrderFitsSpec)

/-- 'laws.FnExactLastVersions', WHERE WHAT IT READS IS OF BULK AT MOST 1048576: true; the input reads as it did. -/
def fnExactLastVersionsUptoRow : OpenClaim := { program := "ytjmjmdncpeeemaa", sum := "4c3ab35e2115ec7115fe0fa0f1ae4a08839e861db955c455ac0062bf62630b43", func := "loop.example/blockexecutor/laws.FnExactLastVersions", spec := "fnExactLastVersions", apart := false, narrowed := true }
def FnExactLastVersionsUptoSaid : Prop := fnExactLastVersionsUptoRow.holds Try.pinned (OpenSpec.upto fnExactLastVersionsSpec)

end Rows
end Go.Proofs.Ytjmjmdncpeeemaa
