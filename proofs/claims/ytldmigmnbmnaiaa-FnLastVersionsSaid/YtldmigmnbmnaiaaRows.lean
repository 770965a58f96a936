/-
  No cell of these rows narrows 'for every input' (looked for: loops, veiled, ifaces, maps, wideKeys, modest, calm, conditions, laid).
  DERIVED. THE GIVEN ROWS OF THIS SEAT. 8 by the template 'for every input the law returns true; each argument reads behind the call as it read before'; 0 by the template 'total and deterministic' (their statements: YtldmigmnbmnaiaaTotals.lean).
  GIVEN WITH THE SEED: the statements are not yours to turn. If you find one false, say at which input.
  Laid BY PROGRAM, IN A SANDBOX (cutbox-rows.mjs): the forced cells as the released guide's own fill.sh prints them over the translation a06945bbbb70d764… (all of the seat's roots in one cut). By AI agents, Wed Nov 11 2026. No macro, syntax, notation, axiom, sorry.
-/
import Derived.Test.YtldmigmnbmnaiaaChecked
import GoSem.Claim
import GoSem.ClaimJoined
import GoSem.ClaimMapViews
import Derived.JoinedTies
import Derived.KernelRfl
namespace Go.Proofs.Ytldmigmnbmnaiaa
/- THE CELL 'sum', in the pinned program and in every row, IS THE sha256 OF THE DUMP (.gsa) THAT YtldmigmnbmnaiaaProg.lean LOADS. Nothing in Lean hashes anything: it is a label: what it is worth is what the hold of that sum in a sandbox is worth. -/
noncomputable def Try.pinned : Pinned := { name := "ytldmigmnbmnaiaa", sum := "a06945bbbb70d764aa285a7bca7aa421be1b5c12254e80d65f21754a8e612200", checked := Try.checked }
namespace Rows
def none {H : Type} : Left H := { results := [], args := [] }

/-- 'laws.FnLevelsOf': WHATEVER THE INPUT: true; the input reads as it did. -/
def fnLevelsOfSpec : ChangeSpec := { name := "fnLevelsOf", fn := fun _ => fun
  | [d] => { results := [.lit (.bool true)], args := [d] }
  | _ => none }
def fnLevelsOfRow : OpenClaim := { program := "ytldmigmnbmnaiaa", sum := "a06945bbbb70d764aa285a7bca7aa421be1b5c12254e80d65f21754a8e612200", func := "loop.example/blockexecutor/laws.FnLevelsOf", spec := "fnLevelsOf", unfollowed := true, recurses := true, apart := false }
def FnLevelsOfSaid : Prop := fnLevelsOfRow.holds Try.pinned (OpenSpec.ofChange fnLevelsOfSpec)

/-- ITS FALSE NEIGHBOUR: 'it returns false'. Refute it at one input. -/
def fnLevelsOfWrong : ChangeSpec := { name := "fnLevelsOf", fn := fun _ => fun
  | [d] => { results := [.lit (.bool false)], args := [d] }
  | _ => none }
def FnLevelsOfWrongFalsely : Prop := fnLevelsOfRow.holds Try.pinned (OpenSpec.ofChange fnLevelsOfWrong)

/-- 'laws.FnVersionsValid': WHATEVER THE INPUT: true; the input reads as it did. -/
def fnVersionsValidSpec : ChangeSpec := { name := "fnVersionsValid", fn := fun _ => fun
  | [d] => { results := [.lit (.bool true)], args := [d] }
  | _ => none }
def fnVersionsValidRow : OpenClaim := { program := "ytldmigmnbmnaiaa", sum := "a06945bbbb70d764aa285a7bca7aa421be1b5c12254e80d65f21754a8e612200", func := "loop.example/blockexecutor/laws.FnVersionsValid", spec := "fnVersionsValid", unfollowed := true, recurses := true, apart := false }
def FnVersionsValidSaid : Prop := fnVersionsValidRow.holds Try.pinned (OpenSpec.ofChange fnVersionsValidSpec)

/-- ITS FALSE NEIGHBOUR: 'it returns false'. Refute it at one input. -/
def fnVersionsValidWrong : ChangeSpec := { name := "fnVersionsValid", fn := fun _ => fun
  | [d] => { results := [.lit (.bool false)], args := [d] }
  | _ => none }
def FnVersionsValidWrongFalsely : Prop := fnVersionsValidRow.holds Try.pinned (OpenSpec.ofChange fnVersionsValidWrong)

/-- 'laws.FnDropVersions': WHATEVER THE INPUT: true; the input reads as it did. -/
def fnDropVersionsSpec : ChangeSpec := { name := "fnDropVersions", fn := fun _ => fun
  | [d] => { results := [.lit (.bool true)], args := [d] }
  | _ => none }
def fnDropVersionsRow : OpenClaim := { program := "ytldmigmnbmnaiaa", sum := "a06945bbbb70d764aa285a7bca7aa421be1b5c12254e80d65f21754a8e612200", func := "loop.example/blockexecutor/laws.FnDropVersions", spec := "fnDropVersions", unfollowed := true, recurses := true, apart := false }
def FnDropVersionsSaid : Prop := fnDropVersionsRow.holds Try.pinned (OpenSpec.ofChange fnDropVersionsSpec)

/-- ITS FALSE NEIGHBOUR: 'it returns false'. Refute it at one input. -/
def fnDropVersionsWrong : ChangeSpec := { name := "fnDropVersions", fn := fun _ => fun
  | [d] => { results := [.lit (.bool false)], args := [d] }
  | _ => none }
def FnDropVersionsWrongFalsely : Prop := fnDropVersionsRow.holds Try.pinned (OpenSpec.ofChange fnDropVersionsWrong)

/-- 'laws.FnReadVersion': WHATEVER THE INPUT: true; the input reads as it did. -/
def fnReadVersionSpec : ChangeSpec := { name := "fnReadVersion", fn := fun _ => fun
  | [d] => { results := [.lit (.bool true)], args := [d] }
  | _ => none }
def fnReadVersionRow : OpenClaim := { program := "ytldmigmnbmnaiaa", sum := "a06945bbbb70d764aa285a7bca7aa421be1b5c12254e80d65f21754a8e612200", func := "loop.example/blockexecutor/laws.FnReadVersion", spec := "fnReadVersion", unfollowed := true, recurses := true, apart := false }
def FnReadVersionSaid : Prop := fnReadVersionRow.holds Try.pinned (OpenSpec.ofChange fnReadVersionSpec)

/-- ITS FALSE NEIGHBOUR: 'it returns false'. Refute it at one input. -/
def fnReadVersionWrong : ChangeSpec := { name := "fnReadVersion", fn := fun _ => fun
  | [d] => { results := [.lit (.bool false)], args := [d] }
  | _ => none }
def FnReadVersionWrongFalsely : Prop := fnReadVersionRow.holds Try.pinned (OpenSpec.ofChange fnReadVersionWrong)

/-- 'laws.FnLastVersions': WHATEVER THE INPUT: true; the input reads as it did. -/
def fnLastVersionsSpec : ChangeSpec := { name := "fnLastVersions", fn := fun _ => fun
  | [d] => { results := [.lit (.bool true)], args := [d] }
  | _ => none }
def fnLastVersionsRow : OpenClaim := { program := "ytldmigmnbmnaiaa", sum := "a06945bbbb70d764aa285a7bca7aa421be1b5c12254e80d65f21754a8e612200", func := "loop.example/blockexecutor/laws.FnLastVersions", spec := "fnLastVersions", unfollowed := true, recurses := true, apart := false }
def FnLastVersionsSaid : Prop := fnLastVersionsRow.holds Try.pinned (OpenSpec.ofChange fnLastVersionsSpec)

/-- ITS FALSE NEIGHBOUR: 'it returns false'. Refute it at one input. -/
def fnLastVersionsWrong : ChangeSpec := { name := "fnLastVersions", fn := fun _ => fun
  | [d] => { results := [.lit (.bool false)], args := [d] }
  | _ => none }
def FnLastVersionsWrongFalsely : Prop := fnLastVersionsRow.holds Try.pinned (OpenSpec.ofChange fnLastVersionsWrong)

/-- 'laws.FnLevelOrder': WHATEVER THE INPUT: true; the input reads as it did. -/
def fnLevelOrderSpec : ChangeSpec := { name := "fnLevelOrder", fn := fun _ => fun
  | [d] => { results := [.lit (.bool true)], args := [d] }
  | _ => none }
def fnLevelOrderRow : OpenClaim := { program := "ytldmigmnbmnaiaa", sum := "a06945bbbb70d764aa285a7bca7aa421be1b5c12254e80d65f21754a8e612200", func := "loop.example/blockexecutor/laws.FnLevelOrder", spec := "fnLevelOrder", unfollowed := true, recurses := true, apart := false }
def FnLevelOrderSaid : Prop := fnLevelOrderRow.holds Try.pinned (OpenSpec.ofChange fnLevelOrderSpec)

/-- ITS FALSE NEIGHBOUR: 'it returns false'. Refute it at one input. -/
def fnLevelOrderWrong : ChangeSpec := { name := "fnLevelOrder", fn := fun _ => fun
  | [d] => { results := [.lit (.bool false)], args := [d] }
  | _ => none }
def FnLevelOrderWrongFalsely : Prop := fnLevelOrderRow.holds Try.pinned (OpenSpec.ofChange fnLevelOrderWrong)

/-- 'laws.FnOrderFits': WHATEVER THE INPUT: true; the input reads as it did. -/
def fnOrderFitsSpec : ChangeSpec := { name := "fnOrderFits", fn := fun _ => fun
  | [d] => { results := [.lit (.bool true)], args := [d] }
  | _ => none }
def fnOrderFitsRow : OpenClaim := { program := "ytldmigmnbmnaiaa", sum := "a06945bbbb70d764aa285a7bca7aa421be1b5c12254e80d65f21754a8e612200", func := "loop.example/blockexecutor/laws.FnOrderFits", spec := "fnOrderFits", unfollowed := true, recurses := true, apart := false }
def FnOrderFitsSaid : Prop := fnOrderFitsRow.holds Try.pinned (OpenSpec.ofChange fnOrderFitsSpec)

/-- ITS FALSE NEIGHBOUR: 'it returns false'. Refute it at one input. -/
def fnOrderFitsWrong : ChangeSpec := { name := "fnOrderFits", fn := fun _ => fun
  | [d] => { results := [.lit (.bool false)], args := [d] }
  | _ => none }
def FnOrderFitsWrongFalsely : Prop := fnOrderFitsRow.holds Try.pinned (OpenSpec.ofChange fnOrderFitsWrong)

/-- 'laws.FnPutVersions': WHATEVER THE INPUT: true; the input reads as it did. -/
def fnPutVersionsSpec : ChangeSpec := { name := "fnPutVersions", fn := fun _ => fun
  | [d] => { results := [.lit (.bool true)], args := [d] }
  | _ => none }
def fnPutVersionsRow : OpenClaim := { program := "ytldmigmnbmnaiaa", sum := "a06945bbbb70d764aa285a7bca7aa421be1b5c12254e80d65f21754a8e612200", func := "loop.example/blockexecutor/laws.FnPutVersions", spec := "fnPutVersions", unfollowed := true, recurses := true, apart := false }
def FnPutVersionsSaid : Prop := fnPutVersionsRow.holds Try.pinned (OpenSpec.ofChange fnPutVersionsSpec)

/-- ITS FALSE NEIGHBOUR: 'it returns false'. Refute it at one input. -/
def fnPutVersionsWrong : ChangeSpec := { name := "fnPutVersions", fn := fun _ => fun
  | [d] => { results := [.lit (.bool false)], args := [d] }
  | _ => none }
def FnPutVersionsWrongFalsely : Prop := fnPutVersionsRow.holds Try.pinned (OpenSpec.ofChange fnPutVersionsWrong)

/- THE SECOND FORM. 'bulk': how many values and letters a reading holds, each counted each time it is reached (what is shared counts as often as it is met; a slice's spare places count too). A statement '..UptoSaid' is the law's where the arguments, and the package variables that the reading takes, are together of bulk at most 1048576: NARROWER than '..Said'. Prove '..Said' where nothing that the law and all that it calls make is longer than what came in: it says more and counts as full. Else prove '..UptoSaid'. A law counts once. -/
mutual
def uptoBulk {H : Type} : DataW H → Nat
  | .lit (.string bytes) => bytes.length + 1
  | .lit _ => 1
  | .nil => 1
  | .ptr d => uptoBulk d + 1
  | .slice elems spare => uptoBulkAll elems + uptoBulkAll spare + 1
  | .agg parts => uptoBulkAll parts + 1
  | .iface _ d => uptoBulk d + 1
  | .map entries => uptoBulkEntries entries + 1
  | .held _ => 1
def uptoBulkAll {H : Type} : List (DataW H) → Nat
  | [] => 0
  | d :: r => uptoBulk d + uptoBulkAll r
def uptoBulkEntries {H : Type} : List (Lit × DataW H) → Nat
  | [] => 0
  | x :: r => uptoBulkEntry x + uptoBulkEntries r
def uptoBulkEntry {H : Type} : Lit × DataW H → Nat
  | (.string bytes, d) => bytes.length + uptoBulk d + 1
  | (_, d) => uptoBulk d + 1
 end
def uptoSmall : (H : Type) → List (DataW H) → Bool := fun _ ds => decide (uptoBulkAll ds ≤ 1048576)
def OpenSpec.upto (s : _root_.Go.ChangeSpec) : _root_.Go.OpenSpec := { _root_.Go.OpenSpec.ofChange s with cond := some uptoSmall }

/-- 'laws.FnLevelsOf', WHERE WHAT IT READS IS OF BULK AT MOST 1048576: true; the input reads as it did. -/
def fnLevelsOfUptoRow : OpenClaim := { program := "ytldmigmnbmnaiaa", sum := "a06945bbbb70d764aa285a7bca7aa421be1b5c12254e80d65f21754a8e612200", func := "loop.example/blockexecutor/laws.FnLevelsOf", spec := "fnLevelsOf", unfollowed := true, recurses := true, apart := false, narrowed := true }
def FnLevelsOfUptoSaid : Prop := fnLevelsOfUptoRow.holds Try.pinned (OpenSpec.upto fnLevelsOfSpec)

/-- 'laws.FnVersionsValid', WHERE WHAT IT READS IS OF BULK AT MOST 1048576: true; the input reads as it did. -/
def fnVersionsValidUptoRow : OpenClaim := { program := "ytldmigmnbmnaiaa", sum := "a06945bbbb70d764aa285a7bca7aa421be1b5c12254e80d65f21754a8e612200", func := "loop.example/blockexecutor/laws.FnVersionsValid", spec := "fnVersionsValid", unfollowed := true, recurses := true, apart := false, narrowed := true }
def FnVersionsValidUptoSaid : Prop := fnVersionsValidUptoRow.holds Try.pinned (OpenSpec.upto fnVersionsValidSpec)

/-- 'laws.FnDropVersions', WHERE WHAT IT READS IS OF BULK AT MOST 1048576: true; the input reads as it did. -/
def fnDropVersionsUptoRow : OpenClaim := { program := "ytldmigmnbmnaiaa", sum := "a06945bbbb70d764aa285a7bca7aa421be1b5c12254e80d65f21754a8e612200", func := "loop.example/blockexecutor/laws.FnDropVersions", spec := "fnDropVersions", unfollowed := true, recurses := true, apart := false, narrowed := true }
def FnDropVersionsUptoSaid : Prop := fnDropVersionsUptoRow.holds Try.pinned (OpenSpec.upto fnDropVersionsSpec)

/-- 'laws.FnReadVersion', WHERE WHAT IT READS IS OF BULK AT MOST 1048576: true; the input reads as it did. -/
def fnReadVersionUptoRow : OpenClaim := { program := "ytldmigmnbmnaiaa", sum := "a06945bbbb70d764aa285a7bca7aa421be1b5c12254e80d65f21754a8e612200", func := "loop.example/blockexecutor/laws.FnReadVersion", spec := "fnReadVersion", unfollowed := true, recurses := true, apart := false, narrowed := true }
def FnReadVersionUptoSaid : Prop := fnReadVersionUptoRow.holds Try.pinned (OpenSpec.upto fnReadVersionSpec)

/-- 'laws.FnLastVersions', WHERE WHAT IT READS IS OF BULK AT MOST 1048576: true; the input reads as it did. -/
def fnLastVersionsUptoRow : OpenClaim := { program := "ytldmigmnbmnaiaa", sum := "a06945bbbb70d764aa285a7bca7aa421be1b5c12254e80d65f21754a8e612200", func := "loop.example/blockexecutor/laws.FnLastVersions", spec := "fnLastVersions", unfollowed := true, recurses := true, apart := false, narrowed := true }
def FnLastVersionsUptoSaid : Prop := fnLastVersionsUptoRow.holds Try.pinned (OpenSpec.upto fnLastVersionsSpec)

/-- 'laws.FnLevelOrder', WHERE WHAT IT READS IS OF BULK AT MOST 1048576: true; the input reads as it did. -/
def fnLevelOrderUptoRow : OpenClaim := { program := "ytldmigmnbmnaiaa", sum := "a06945bbbb70d764aa285a7bca7aa421be1b5c12254e80d65f21754a8e612200", func := "loop.example/blockexecutor/laws.FnLevelOrder", spec := "fnLevelOrder", unfollowed := true, recurses := true, apart := false, narrowed := true }
def FnLevelOrderUptoSaid : Prop := fnLevelOrderUptoRow.holds Try.pinned (OpenSpec.upto fnLevelOrderSpec)

/-- 'laws.FnOrderFits', WHERE WHAT IT READS IS OF BULK AT MOST 1048576: true; the input reads as it did. -/
def fnOrderFitsUptoRow : OpenClaim := { program := "ytldmigmnbmnaiaa", sum := "a06945bbbb70d764aa285a7bca7aa421be1b5c12254e80d65f21754a8e612200", func := "loop.example/blockexecutor/laws.FnOrderFits", spec := "fnOrderFits", unfollowed := true, recurses := true, apart := false, narrowed := true }
def FnOrderFitsUptoSaid : Prop := fnOrderFitsUptoRow.holds Try.pinned (OpenSpec.upto fnOrderFitsSpec)

/-- 'laws.FnPutVersions', WHERE WHAT IT READS IS OF BULK AT MOST 1048576: true; the input reads as it did. -/
def fnPutVersionsUptoRow : OpenClaim := { program := "ytldmigmnbmnaiaa", sum := "a06945bbbb70d764aa285a7bca7aa421be1b5c12254e80d65f21754a8e612200", func := "loop.example/blockexecutor/laws.FnPutVersions", spec := "fnPutVersions", unfollowed := true, recurses := true, apart := false, narrowed := true }
def FnPutVersionsUptoSaid : Prop := fnPutVersionsUptoRow.holds Try.pinned (OpenSpec.upto fnPutVersionsSpec)

end Rows
end Go.Proofs.Ytldmigmnbmnaiaa
