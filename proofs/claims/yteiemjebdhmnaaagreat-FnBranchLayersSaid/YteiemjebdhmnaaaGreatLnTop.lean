/- Row: FnBranchLayers returns true for every input, and each argument reads behind the call as it read before. Conditions: none. -/
import Derived.Test.YteiemjebdhmnaaaGreatGLxTop37
set_option linter.unusedSimpArgs false
set_option linter.unusedVariables false
namespace Go.Proofs.YteiemjebdhmnaaaGreat
open Go.ChangeShapes Go.WideShapes Go.ChangeAt Go.RowKit

set_option maxRecDepth 100000 in
theorem FnBranchLayers_lifted (os : Os) (started : os.Started) (H : Type) (enc : TypeId × Value → H) :
    ReturnsInHanded {} Tryz.checked os 3 .any (Rows.fnBranchLayersSpec.pre6 enc Tryz.prog Tryz.f3 Rows.fnBranchLayersRow.domain false) (Rows.fnBranchLayersSpec.post enc Tryz.prog Tryz.f3 false true false false) := by
  refine returnsInHanded_of_change (C := Tryz.checked) Tryz.own started (by kernel_rfl) Tryz.func3
    (ChangeSpec.witness6 (enc := enc) (C := Tryz.checked) false ⟨#[], #[.slice none 0 0], []⟩ 8 (by kernel_rfl) (by kernel_rfl) (by kernel_rfl) (by kernel_rfl)) ?_
  intro W base args ds gs before hval0 hW _ _
  have hval : ∀ (j : Nat) t v, Tryz.f3.params[j]? = some t → args[j]? = some v → Value.okWide Tryz.prog W .any base t v := hval0
  refine law_contract (tb := 4) Tryz.laidOut (by kernel_rfl) (by kernel_rfl) Tryz.underlying4 rfl (fun ds hd => ?_) hW ?_
  · match ds, hd with
    | [_], _ => rfl
  · intro p hA
    rw [Tryz.params3] at hA hval
    obtain ⟨v0, d0, rfl, _, h0⟩ := trodAll_one hA
    obtain ⟨l0, hl0⟩ := open_sl dec_Bytes Tryz.underlying22 (hval 0 _ v0 rfl rfl) h0
    exact FnBranchLayers_any l0 v0 W (SL.of_byte hl0).1 (SL.of_byte hl0).2
theorem FnBranchLayers_closed : joinedFacts Tryz.prog 3 Tryz.f3 Rows.fnBranchLayersSpec Rows.fnBranchLayersRow = true := by
  unfold joinedFacts
  rw [Tryz.mayEnter, Tryz.lifts, Tryz.make]
  kernel_rfl
theorem FnBranchLayers_holds : Rows.FnBranchLayersSaid :=
  OpenClaim.holds_of_wide 3 Tryz.f3 rfl rfl rfl rfl rfl rfl rfl ⟨rfl, rfl, rfl, rfl, rfl⟩ rfl rfl rfl rfl rfl (by kernel_rfl) Tryz.func3 FnBranchLayers_closed
    (of_decide_eq_true (by kernel_rfl)) (by unfold Func.isWrapper; first | (rw [if_pos (by decide +kernel)]; kernel_rfl) | (rw [if_neg (by decide +kernel)]; exact ⟨rfl, rfl⟩))
    (fun os started H enc _ => FnBranchLayers_lifted os started H enc)
#print axioms FnBranchLayers_holds
end Go.Proofs.YteiemjebdhmnaaaGreat
