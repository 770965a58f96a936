/-
  No cell of these rows narrows 'for every input' (looked for: loops, veiled, ifaces, maps, wideKeys, modest, calm, conditions, laid).
  DERIVED. THE GIVEN ROWS OF THIS SEAT. 11 by the template 'for every input the law returns true; each argument reads behind the call as it read before'; 0 by the template 'total and deterministic' (their statements: YtkboefmkfpnpjaaTotals.lean).
  GIVEN WITH THE SEED: the statements are not yours to turn. If you find one false, say at which input.
  Laid BY PROGRAM, IN A SANDBOX (cutbox-rows.mjs): the forced cells as the released guide's own fill.sh prints them over the translation 97fd03d62fedcb77… (all of the seat's roots in one cut). By AI agents, Wed Nov 11 2026. No macro, syntax, notation, axiom, sorry.
-/
import Derived.Test.YtkboefmkfpnpjaaChecked
import GoSem.Claim
import GoSem.ClaimJoined
import GoSem.ClaimMapViews
import Derived.JoinedTies
import Derived.KernelRfl
namespace Go.Proofs.Ytkboefmkfpnpjaa
/- THE CELL 'sum', in the pinned program and in every row, IS THE sha256 OF THE DUMP (.gsa) THAT YtkboefmkfpnpjaaProg.lean LOADS. Nothing in Lean hashes anything: it is a label: what it is worth is what the hold of that sum in a sandbox is worth. -/
noncomputable def Try.pinned : Pinned := { name := "ytkboefmkfpnpjaa", sum := "97fd03d62fedcb77bd741891664f30c9bec8a3a8ef0c7fa785ad95c1f8c7a299", checked := Try.checked }
namespace Rows
def none {H : Type} : Left H := { results := [], args := [] }

/-- 'laws.FnConflict': WHATEVER THE INPUT: true; the input reads as it did. -/
def fnConflictSpec : ChangeSpec := { name := "fnConflict", fn := fun _ => fun
  | [d] => { results := [.lit (.bool true)], args := [d] }
  | _ => none }
def fnConflictRow : OpenClaim := { program := "ytkboefmkfpnpjaa", sum := "97fd03d62fedcb77bd741891664f30c9bec8a3a8ef0c7fa785ad95c1f8c7a299", func := "loop.example/blockexecutor/laws.FnConflict", spec := "fnConflict", unfollowed := true, recurses := true, apart := false }
def FnConflictSaid : Prop := fnConflictRow.holds Try.pinned (OpenSpec.ofChange fnConflictSpec)

/-- ITS FALSE NEIGHBOUR: 'it returns false'. Refute it at one input. -/
def fnConflictWrong : ChangeSpec := { name := "fnConflict", fn := fun _ => fun
  | [d] => { results := [.lit (.bool false)], args := [d] }
  | _ => none }
def FnConflictWrongFalsely : Prop := fnConflictRow.holds Try.pinned (OpenSpec.ofChange fnConflictWrong)

/-- 'laws.FnRunOrder': WHATEVER THE INPUT: true; the input reads as it did. -/
def fnRunOrderSpec : ChangeSpec := { name := "fnRunOrder", fn := fun _ => fun
  | [d] => { results := [.lit (.bool true)], args := [d] }
  | _ => none }
def fnRunOrderRow : OpenClaim := { program := "ytkboefmkfpnpjaa", sum := "97fd03d62fedcb77bd741891664f30c9bec8a3a8ef0c7fa785ad95c1f8c7a299", func := "loop.example/blockexecutor/laws.FnRunOrder", spec := "fnRunOrder", unfollowed := true, recurses := true, apart := false }
def FnRunOrderSaid : Prop := fnRunOrderRow.holds Try.pinned (OpenSpec.ofChange fnRunOrderSpec)

/-- ITS FALSE NEIGHBOUR: 'it returns false'. Refute it at one input. -/
def fnRunOrderWrong : ChangeSpec := { name := "fnRunOrder", fn := fun _ => fun
  | [d] => { results := [.lit (.bool false)], args := [d] }
  | _ => none }
def FnRunOrderWrongFalsely : Prop := fnRunOrderRow.holds Try.pinned (OpenSpec.ofChange fnRunOrderWrong)

/-- 'laws.FnEffectsSum': WHATEVER THE INPUT: true; the input reads as it did. -/
def fnEffectsSumSpec : ChangeSpec := { name := "fnEffectsSum", fn := fun _ => fun
  | [d] => { results := [.lit (.bool true)], args := [d] }
  | _ => none }
def fnEffectsSumRow : OpenClaim := { program := "ytkboefmkfpnpjaa", sum := "97fd03d62fedcb77bd741891664f30c9bec8a3a8ef0c7fa785ad95c1f8c7a299", func := "loop.example/blockexecutor/laws.FnEffectsSum", spec := "fnEffectsSum", unfollowed := true, recurses := true, apart := false }
def FnEffectsSumSaid : Prop := fnEffectsSumRow.holds Try.pinned (OpenSpec.ofChange fnEffectsSumSpec)

/-- ITS FALSE NEIGHBOUR: 'it returns false'. Refute it at one input. -/
def fnEffectsSumWrong : ChangeSpec := { name := "fnEffectsSum", fn := fun _ => fun
  | [d] => { results := [.lit (.bool false)], args := [d] }
  | _ => none }
def FnEffectsSumWrongFalsely : Prop := fnEffectsSumRow.holds Try.pinned (OpenSpec.ofChange fnEffectsSumWrong)

/-- 'laws.FnSerialVersions': WHATEVER THE INPUT: true; the input reads as it did. -/
def fnSerialVersionsSpec : ChangeSpec := { name := "fnSerialVersions", fn := fun _ => fun
  | [d] => { results := [.lit (.bool true)], args := [d] }
  | _ => none }
def fnSerialVersionsRow : OpenClaim := { program := "ytkboefmkfpnpjaa", sum := "97fd03d62fedcb77bd741891664f30c9bec8a3a8ef0c7fa785ad95c1f8c7a299", func := "loop.example/blockexecutor/laws.FnSerialVersions", spec := "fnSerialVersions", unfollowed := true, recurses := true, apart := false }
def FnSerialVersionsSaid : Prop := fnSerialVersionsRow.holds Try.pinned (OpenSpec.ofChange fnSerialVersionsSpec)

/-- ITS FALSE NEIGHBOUR: 'it returns false'. Refute it at one input. -/
def fnSerialVersionsWrong : ChangeSpec := { name := "fnSerialVersions", fn := fun _ => fun
  | [d] => { results := [.lit (.bool false)], args := [d] }
  | _ => none }
def FnSerialVersionsWrongFalsely : Prop := fnSerialVersionsRow.holds Try.pinned (OpenSpec.ofChange fnSerialVersionsWrong)

/-- 'laws.FnPutVersions': WHATEVER THE INPUT: true; the input reads as it did. -/
def fnPutVersionsSpec : ChangeSpec := { name := "fnPutVersions", fn := fun _ => fun
  | [d] => { results := [.lit (.bool true)], args := [d] }
  | _ => none }
def fnPutVersionsRow : OpenClaim := { program := "ytkboefmkfpnpjaa", sum := "97fd03d62fedcb77bd741891664f30c9bec8a3a8ef0c7fa785ad95c1f8c7a299", func := "loop.example/blockexecutor/laws.FnPutVersions", spec := "fnPutVersions", unfollowed := true, recurses := true, apart := false }
def FnPutVersionsSaid : Prop := fnPutVersionsRow.holds Try.pinned (OpenSpec.ofChange fnPutVersionsSpec)

/-- ITS FALSE NEIGHBOUR: 'it returns false'. Refute it at one input. -/
def fnPutVersionsWrong : ChangeSpec := { name := "fnPutVersions", fn := fun _ => fun
  | [d] => { results := [.lit (.bool false)], args := [d] }
  | _ => none }
def FnPutVersionsWrongFalsely : Prop := fnPutVersionsRow.holds Try.pinned (OpenSpec.ofChange fnPutVersionsWrong)

/-- 'laws.FnOrderFits': WHATEVER THE INPUT: true; the input reads as it did. -/
def fnOrderFitsSpec : ChangeSpec := { name := "fnOrderFits", fn := fun _ => fun
  | [d] => { results := [.lit (.bool true)], args := [d] }
  | _ => none }
def fnOrderFitsRow : OpenClaim := { program := "ytkboefmkfpnpjaa", sum := "97fd03d62fedcb77bd741891664f30c9bec8a3a8ef0c7fa785ad95c1f8c7a299", func := "loop.example/blockexecutor/laws.FnOrderFits", spec := "fnOrderFits", unfollowed := true, recurses := true, apart := false }
def FnOrderFitsSaid : Prop := fnOrderFitsRow.holds Try.pinned (OpenSpec.ofChange fnOrderFitsSpec)

/-- ITS FALSE NEIGHBOUR: 'it returns false'. Refute it at one input. -/
def fnOrderFitsWrong : ChangeSpec := { name := "fnOrderFits", fn := fun _ => fun
  | [d] => { results := [.lit (.bool false)], args := [d] }
  | _ => none }
def FnOrderFitsWrongFalsely : Prop := fnOrderFitsRow.holds Try.pinned (OpenSpec.ofChange fnOrderFitsWrong)

/-- 'laws.FnExactEngineValid': WHATEVER THE INPUT: true; the input reads as it did. -/
def fnExactEngineValidSpec : ChangeSpec := { name := "fnExactEngineValid", fn := fun _ => fun
  | [d] => { results := [.lit (.bool true)], args := [d] }
  | _ => none }
def fnExactEngineValidRow : OpenClaim := { program := "ytkboefmkfpnpjaa", sum := "97fd03d62fedcb77bd741891664f30c9bec8a3a8ef0c7fa785ad95c1f8c7a299", func := "loop.example/blockexecutor/laws.FnExactEngineValid", spec := "fnExactEngineValid", unfollowed := true, recurses := true, apart := false }
def FnExactEngineValidSaid : Prop := fnExactEngineValidRow.holds Try.pinned (OpenSpec.ofChange fnExactEngineValidSpec)

/-- ITS FALSE NEIGHBOUR: 'it returns false'. Refute it at one input. -/
def fnExactEngineValidWrong : ChangeSpec := { name := "fnExactEngineValid", fn := fun _ => fun
  | [d] => { results := [.lit (.bool false)], args := [d] }
  | _ => none }
def FnExactEngineValidWrongFalsely : Prop := fnExactEngineValidRow.holds Try.pinned (OpenSpec.ofChange fnExactEngineValidWrong)

/-- 'laws.FnExactEngineDone': WHATEVER THE INPUT: true; the input reads as it did. -/
def fnExactEngineDoneSpec : ChangeSpec := { name := "fnExactEngineDone", fn := fun _ => fun
  | [d] => { results := [.lit (.bool true)], args := [d] }
  | _ => none }
def fnExactEngineDoneRow : OpenClaim := { program := "ytkboefmkfpnpjaa", sum := "97fd03d62fedcb77bd741891664f30c9bec8a3a8ef0c7fa785ad95c1f8c7a299", func := "loop.example/blockexecutor/laws.FnExactEngineDone", spec := "fnExactEngineDone", unfollowed := true, recurses := true, apart := false }
def FnExactEngineDoneSaid : Prop := fnExactEngineDoneRow.holds Try.pinned (OpenSpec.ofChange fnExactEngineDoneSpec)

/-- ITS FALSE NEIGHBOUR: 'it returns false'. Refute it at one input. -/
def fnExactEngineDoneWrong : ChangeSpec := { name := "fnExactEngineDone", fn := fun _ => fun
  | [d] => { results := [.lit (.bool false)], args := [d] }
  | _ => none }
def FnExactEngineDoneWrongFalsely : Prop := fnExactEngineDoneRow.holds Try.pinned (OpenSpec.ofChange fnExactEngineDoneWrong)

/-- 'laws.FnExactTriesOf': WHATEVER THE INPUT: true; the input reads as it did. -/
def fnExactTriesOfSpec : ChangeSpec := { name := "fnExactTriesOf", fn := fun _ => fun
  | [d] => { results := [.lit (.bool true)], args := [d] }
  | _ => none }
def fnExactTriesOfRow : OpenClaim := { program := "ytkboefmkfpnpjaa", sum := "97fd03d62fedcb77bd741891664f30c9bec8a3a8ef0c7fa785ad95c1f8c7a299", func := "loop.example/blockexecutor/laws.FnExactTriesOf", spec := "fnExactTriesOf", unfollowed := true, recurses := true, apart := false }
def FnExactTriesOfSaid : Prop := fnExactTriesOfRow.holds Try.pinned (OpenSpec.ofChange fnExactTriesOfSpec)

/-- ITS FALSE NEIGHBOUR: 'it returns false'. Refute it at one input. -/
def fnExactTriesOfWrong : ChangeSpec := { name := "fnExactTriesOf", fn := fun _ => fun
  | [d] => { results := [.lit (.bool false)], args := [d] }
  | _ => none }
def FnExactTriesOfWrongFalsely : Prop := fnExactTriesOfRow.holds Try.pinned (OpenSpec.ofChange fnExactTriesOfWrong)

/-- 'laws.FnEngineValid': WHATEVER THE INPUT: true; the input reads as it did. -/
def fnEngineValidSpec : ChangeSpec := { name := "fnEngineValid", fn := fun _ => fun
  | [d] => { results := [.lit (.bool true)], args := [d] }
  | _ => none }
def fnEngineValidRow : OpenClaim := { program := "ytkboefmkfpnpjaa", sum := "97fd03d62fedcb77bd741891664f30c9bec8a3a8ef0c7fa785ad95c1f8c7a299", func := "loop.example/blockexecutor/laws.FnEngineValid", spec := "fnEngineValid", unfollowed := true, recurses := true, apart := false }
def FnEngineValidSaid : Prop := fnEngineValidRow.holds Try.pinned (OpenSpec.ofChange fnEngineValidSpec)

/-- ITS FALSE NEIGHBOUR: 'it returns false'. Refute it at one input. -/
def fnEngineValidWrong : ChangeSpec := { name := "fnEngineValid", fn := fun _ => fun
  | [d] => { results := [.lit (.bool false)], args := [d] }
  | _ => none }
def FnEngineValidWrongFalsely : Prop := fnEngineValidRow.holds Try.pinned (OpenSpec.ofChange fnEngineValidWrong)

/-- 'laws.FnEngineDone': WHATEVER THE INPUT: true; the input reads as it did. -/
def fnEngineDoneSpec : ChangeSpec := { name := "fnEngineDone", fn := fun _ => fun
  | [d] => { results := [.lit (.bool true)], args := [d] }
  | _ => none }
def fnEngineDoneRow : OpenClaim := { program := "ytkboefmkfpnpjaa", sum := "97fd03d62fedcb77bd741891664f30c9bec8a3a8ef0c7fa785ad95c1f8c7a299", func := "loop.example/blockexecutor/laws.FnEngineDone", spec := "fnEngineDone", unfollowed := true, recurses := true, apart := false }
def FnEngineDoneSaid : Prop := fnEngineDoneRow.holds Try.pinned (OpenSpec.ofChange fnEngineDoneSpec)

/-- ITS FALSE NEIGHBOUR: 'it returns false'. Refute it at one input. -/
def fnEngineDoneWrong : ChangeSpec := { name := "fnEngineDone", fn := fun _ => fun
  | [d] => { results := [.lit (.bool false)], args := [d] }
  | _ => none }
def FnEngineDoneWrongFalsely : Prop := fnEngineDoneRow.holds Try.pinned (OpenSpec.ofChange fnEngineDoneWrong)

/- THE SECOND FORM. 'bulk': how many values and letters a reading holds, each counted each time it is reached (what is shared counts as often as it is met; a slice's spare places count too). A statement '..UptoSaid' is the law's where the arguments, and the package variables that the reading takes, are together of bulk at most 1048576: NARROWER than '..Said'. Prove '..Said' where nothing that the law and all that it calls make is longer than what came in: it says more and counts as full. Else prove '..UptoSaid'. A law counts once. -/
mutual
def uptoBulk {H : Type} : DataW H → Nat
  | .lit (.string bytes) => bytes.length + 1
  | .lit _ => 1
  | .nil => 1
  | .ptr d => uptoBulk d + 1
  | .slice elems spare => uptoBulkAll elems + uptoBulkAll spare + 1
  | .agg parts => uptoBulkAll parts + 1
  | .iface _ d => uptoBulk d + 1
  | .map entries => uptoBulkEntries entries + 1
  | .held _ => 1
def uptoBulkAll {H : Type} : List (DataW H) → Nat
  | [] => 0
  | d :: r => uptoBulk d + uptoBulkAll r
def uptoBulkEntries {H : Type} : List (Lit × DataW H) → Nat
  | [] => 0
  | x :: r => uptoBulkEntry x + uptoBulkEntries r
def uptoBulkEntry {H : Type} : Lit × DataW H → Nat
  | (.string bytes, d) => bytes.length + uptoBulk d + 1
  | (_, d) => uptoBulk d + 1
 end
def uptoSmall : (H : Type) → List (DataW H) → Bool := fun _ ds => decide (uptoBulkAll ds ≤ 1048576)
def OpenSpec.upto (s : _root_.Go.ChangeSpec) : _root_.Go.OpenSpec := { _root_.Go.OpenSpec.ofChange s with cond := some uptoSmall }

/-- 'laws.FnConflict', WHERE WHAT IT READS IS OF BULK AT MOST 1048576: true; the input reads as it did. -/
def fnConflictUptoRow : OpenClaim := { program := "ytkboefmkfpnpjaa", sum := "97fd03d62fedcb77bd741891664f30c9bec8a3a8ef0c7fa785ad95c1f8c7a299", func := "loop.example/blockexecutor/laws.FnConflict", spec := "fnConflict", unfollowed := true, recurses := true, apart := false, narrowed := true }
def FnConflictUptoSaid : Prop := fnConflictUptoRow.holds Try.pinned (OpenSpec.upto fnConflictSpec)

/-- 'laws.FnRunOrder', WHERE WHAT IT READS IS OF BULK AT MOST 1048576: true; the input reads as it did. -/
def fnRunOrderUptoRow : OpenClaim := { program := "ytkboefmkfpnpjaa", sum := "97fd03d62fedcb77bd741891664f30c9bec8a3a8ef0c7fa785ad95c1f8c7a299", func := "loop.example/blockexecutor/laws.FnRunOrder", spec := "fnRunOrder", unfollowed := true, recurses := true, apart := false, narrowed := true }
def FnRunOrderUptoSaid : Prop := fnRunOrderUptoRow.holds Try.pinned (OpenSpec.upto fnRunOrderSpec)

/-- 'laws.FnEffectsSum', WHERE WHAT IT READS IS OF BULK AT MOST 1048576: true; the input reads as it did. -/
def fnEffectsSumUptoRow : OpenClaim := { program := "ytkboefmkfpnpjaa", sum := "97fd03d62fedcb77bd741891664f30c9bec8a3a8ef0c7fa785ad95c1f8c7a299", func := "loop.example/blockexecutor/laws.FnEffectsSum", spec := "fnEffectsSum", unfollowed := true, recurses := true, apart := false, narrowed := true }
def FnEffectsSumUptoSaid : Prop := fnEffectsSumUptoRow.holds Try.pinned (OpenSpec.upto fnEffectsSumSpec)

/-- 'laws.FnSerialVersions', WHERE WHAT IT READS IS OF BULK AT MOST 1048576: true; the input reads as it did. -/
def fnSerialVersionsUptoRow : OpenClaim := { program := "ytkboefmkfpnpjaa", sum := "97fd03d62fedcb77bd741891664f30c9bec8a3a8ef0c7fa785ad95c1f8c7a299", func := "loop.example/blockexecutor/laws.FnSerialVersions", spec := "fnSerialVersions", unfollowed := true, recurses := true, apart := false, narrowed := true }
def FnSerialVersionsUptoSaid : Prop := fnSerialVersionsUptoRow.holds Try.pinned (OpenSpec.upto fnSerialVersionsSpec)

/-- 'laws.FnPutVersions', WHERE WHAT IT READS IS OF BULK AT MOST 1048576: true; the input reads as it did. -/
def fnPutVersionsUptoRow : OpenClaim := { program := "ytkboefmkfpnpjaa", sum := "97fd03d62fedcb77bd741891664f30c9bec8a3a8ef0c7fa785ad95c1f8c7a299", func := "loop.example/blockexecutor/laws.FnPutVersions", spec := "fnPutVersions", unfollowed := true, recurses := true, apart := false, narrowed := true }
def FnPutVersionsUptoSaid : Prop := fnPutVersionsUptoRow.holds Try.pinned (OpenSpec.upto fnPutVersionsSpec)

/-- 'laws.FnOrderFits', WHERE WHAT IT READS IS OF BULK AT MOST 1048576: true; the input reads as it did. -/
def fnOrderFitsUptoRow : OpenClaim := { program := "ytkboefmkfpnpjaa", sum := "97fd03d62fedcb77bd741891664f30c9bec8a3a8ef0c7fa785ad95c1f8c7a299", func := "loop.example/blockexecutor/laws.FnOrderFits", spec := "fnOrderFits", unfollowed := true, recurses := true, apart := false, narrowed := true }
def FnOrderFitsUptoSaid : Prop := fnOrderFitsUptoRow.holds Try.pinned (OpenSpec.upto fnOrderFitsSpec)

/-- 'laws.FnExactEngineValid', WHERE WHAT IT READS IS OF BULK AT MOST 1048576: true; the input reads as it did. -/
def fnExactEngineValidUptoRow : OpenClaim := { program := "ytkboefmkfpnpjaa", sum := "97fd03d62fedcb77bd741891664f30c9bec8a3a8ef0c7fa785ad95c1f8c7a299", func := "loop.example/blockexecutor/laws.FnExactEngineValid", spec := "fnExactEngineValid", unfollowed := true, recurses := true, apart := false, narrowed := true }
def FnExactEngineValidUptoSaid : Prop := fnExactEngineValidUptoRow.holds Try.pinned (OpenSpec.upto fnExactEngineValidSpec)

/-- 'laws.FnExactEngineDone', WHERE WHAT IT READS IS OF BULK AT MOST 1048576: true; the input reads as it did. -/
def fnExactEngineDoneUptoRow : OpenClaim := { program := "ytkboefmkfpnpjaa", sum := "97fd03d62fedcb77bd741891664f30c9bec8a3a8ef0c7fa785ad95c1f8c7a299", func := "loop.example/blockexecutor/laws.FnExactEngineDone", spec := "fnExactEngineDone", unfollowed := true, recurses := true, apart := false, narrowed := true }
def FnExactEngineDoneUptoSaid : Prop := fnExactEngineDoneUptoRow.holds Try.pinned (OpenSpec.upto fnExactEngineDoneSpec)

/-- 'laws.FnExactTriesOf', WHERE WHAT IT READS IS OF BULK AT MOST 1048576: true; the input reads as it did. -/
def fnExactTriesOfUptoRow : OpenClaim := { program := "ytkboefmkfpnpjaa", sum := "97fd03d62fedcb77bd741891664f30c9bec8a3a8ef0c7fa785ad95c1f8c7a299", func := "loop.example/blockexecutor/laws.FnExactTriesOf", spec := "fnExactTriesOf", unfollowed := true, recurses := true, apart := false, narrowed := true }
def FnExactTriesOfUptoSaid : Prop := fnExactTriesOfUptoRow.holds Try.pinned (OpenSpec.upto fnExactTriesOfSpec)

/-- 'laws.FnEngineValid', WHERE WHAT IT READS IS OF BULK AT MOST 1048576: true; the input reads as it did. -/
def fnEngineValidUptoRow : OpenClaim := { program := "ytkboefmkfpnpjaa", sum := "97fd03d62fedcb77bd741891664f30c9bec8a3a8ef0c7fa785ad95c1f8c7a299", func := "loop.example/blockexecutor/laws.FnEngineValid", spec := "fnEngineValid", unfollowed := true, recurses := true, apart := false, narrowed := true }
def FnEngineValidUptoSaid : Prop := fnEngineValidUptoRow.holds Try.pinned (OpenSpec.upto fnEngineValidSpec)

/-- 'laws.FnEngineDone', WHERE WHAT IT READS IS OF BULK AT MOST 1048576: true; the input reads as it did. -/
def fnEngineDoneUptoRow : OpenClaim := { program := "ytkboefmkfpnpjaa", sum := "97fd03d62fedcb77bd741891664f30c9bec8a3a8ef0c7fa785ad95c1f8c7a299", func := "loop.example/blockexecutor/laws.FnEngineDone", spec := "fnEngineDone", unfollowed := true, recurses := true, apart := false, narrowed := true }
def FnEngineDoneUptoSaid : Prop := fnEngineDoneUptoRow.holds Try.pinned (OpenSpec.upto fnEngineDoneSpec)

end Rows
end Go.Proofs.Ytkboefmkfpnpjaa
