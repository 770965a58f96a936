/- Row: FnExactBranchLayers returns true for every input, and each argument reads behind the call as it read before. Conditions: none. -/
import Derived.Test.YteiemjebdhmnaaaGreatGLxTop05
import Derived.Test.YteiemjebdhmnaaaGreatGLxTop31
set_option linter.unusedSimpArgs false
set_option linter.unusedVariables false
namespace Go.Proofs.YteiemjebdhmnaaaGreat
open Go.ChangeShapes Go.WideShapes Go.ChangeAt Go.RowKit

set_option maxRecDepth 100000 in
theorem FnExactBranchLayers_lifted (os : Os) (started : os.Started) (H : Type) (enc : TypeId × Value → H) :
    ReturnsInHanded {} Tryz.checked os 4 .any (Rows.fnExactBranchLayersSpec.pre6 enc Tryz.prog Tryz.f4 Rows.fnExactBranchLayersRow.domain false) (Rows.fnExactBranchLayersSpec.post enc Tryz.prog Tryz.f4 false true false false) := by
  refine returnsInHanded_of_change (C := Tryz.checked) Tryz.own started (by kernel_rfl) Tryz.func4
    (ChangeSpec.witness6 (enc := enc) (C := Tryz.checked) false ⟨#[], #[.agg #[.slice none 0 0, .slice none 0 0, .slice none 0 0]], []⟩ 8 (by kernel_rfl) (by kernel_rfl) (by kernel_rfl) (by kernel_rfl)) ?_
  intro W base args ds gs before hval0 hW _ _
  have hval : ∀ (j : Nat) t v, Tryz.f4.params[j]? = some t → args[j]? = some v → Value.okWide Tryz.prog W .any base t v := hval0
  refine law_contract (tb := 4) Tryz.laidOut (by kernel_rfl) (by kernel_rfl) Tryz.underlying4 rfl (fun ds hd => ?_) hW ?_
  · match ds, hd with
    | [_], _ => rfl
  · intro p hA
    rw [Tryz.params4] at hA hval
    obtain ⟨v0, d0, rfl, _, h0⟩ := trodAll_one hA
    obtain ⟨cs, x, rfl, u0, u1, u2, rfl, hs⟩ := dec_BlockTree.many (by decide) h0
    exact FnExactBranchLayers_any x u0 u1 u2 W hs
theorem FnExactBranchLayers_closed : joinedFacts Tryz.prog 4 Tryz.f4 Rows.fnExactBranchLayersSpec Rows.fnExactBranchLayersRow = true := by
  unfold joinedFacts
  rw [Tryz.mayEnter, Tryz.lifts, Tryz.make]
  kernel_rfl
theorem FnExactBranchLayers_holds : Rows.FnExactBranchLayersSaid :=
  OpenClaim.holds_of_wide 4 Tryz.f4 rfl rfl rfl rfl rfl rfl rfl ⟨rfl, rfl, rfl, rfl, rfl⟩ rfl rfl rfl rfl rfl (by kernel_rfl) Tryz.func4 FnExactBranchLayers_closed
    (of_decide_eq_true (by kernel_rfl)) (by unfold Func.isWrapper; first | (rw [if_pos (by decide +kernel)]; kernel_rfl) | (rw [if_neg (by decide +kernel)]; exact ⟨rfl, rfl⟩))
    (fun os started H enc _ => FnExactBranchLayers_lifted os started H enc)
#print axioms FnExactBranchLayers_holds
end Go.Proofs.YteiemjebdhmnaaaGreat
