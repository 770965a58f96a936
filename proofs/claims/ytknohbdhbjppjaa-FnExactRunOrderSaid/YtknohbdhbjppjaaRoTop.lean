/- Row: FnExactRunOrder returns true for every input, and each argument reads behind the call as it read before. Conditions: none. -/
import Derived.Test.YtknohbdhbjppjaaGBRTop01
import Derived.Test.YtknohbdhbjppjaaGBRTop34
set_option linter.unusedSimpArgs false
set_option linter.unusedVariables false
namespace Go.Proofs.Ytknohbdhbjppjaa
open Go.ChangeShapes Go.WideShapes Go.ChangeAt Go.RowKit

set_option maxRecDepth 100000 in
theorem FnExactRunOrder_lifted (os : Os) (started : os.Started) (H : Type) (enc : TypeId × Value → H) :
    ReturnsInHanded {} Try.checked os 6 .any (Rows.fnExactRunOrderSpec.pre6 enc Try.prog Try.f6 Rows.fnExactRunOrderRow.domain false) (Rows.fnExactRunOrderSpec.post enc Try.prog Try.f6 false true false false) := by
  refine returnsInHanded_of_change (C := Try.checked) Try.own started (by kernel_rfl) Try.func6
    (ChangeSpec.witness6 (enc := enc) (C := Try.checked) false ⟨#[], #[.slice none 0 0, .slice none 0 0, .slice none 0 0], []⟩ 8 (by kernel_rfl) (by kernel_rfl) (by kernel_rfl) (by kernel_rfl)) ?_
  intro W base args ds gs before hval0 hW _ _
  have hval : ∀ (j : Nat) t v, Try.f6.params[j]? = some t → args[j]? = some v → Value.okWide Try.prog W .any base t v := hval0
  refine law_contract (tb := 4) Try.laidOut (by kernel_rfl) (by kernel_rfl) Try.underlying4 rfl (fun ds hd => ?_) hW ?_
  · match ds, hd with
    | [_, _, _], _ => rfl
  · intro p hA
    rw [Try.params6] at hA hval
    obtain ⟨v0, v1, v2, d0, d1, d2, p0, p1, p2, rfl, _, _, h0, h1, h2⟩ := trodAll_three hA
    obtain ⟨l0, hl0⟩ := open_sl dec_EntryS Try.underlying22 (hval 0 _ v0 rfl rfl) h0
    obtain ⟨l1, hl1⟩ := open_sl dec_ActionS Try.underlying51 (hval 1 _ v1 rfl rfl) h1
    obtain ⟨l2, hl2⟩ := open_sl dec_IntS Try.underlying36 (hval 2 _ v2 rfl rfl) h2
    exact FnExactRunOrder_any l0 v0 l1 v1 l2 v2 W hl0 hl1 hl2
theorem FnExactRunOrder_closed : joinedFacts Try.prog 6 Try.f6 Rows.fnExactRunOrderSpec Rows.fnExactRunOrderRow = true := by
  unfold joinedFacts
  rw [Try.mayEnter, Try.lifts, Try.make]
  kernel_rfl
theorem FnExactRunOrder_holds : Rows.FnExactRunOrderSaid :=
  OpenClaim.holds_of_wide 6 Try.f6 rfl rfl rfl rfl rfl rfl rfl ⟨rfl, rfl, rfl, rfl, rfl⟩ rfl rfl rfl rfl rfl (by kernel_rfl) Try.func6 FnExactRunOrder_closed
    (of_decide_eq_true (by kernel_rfl)) (by unfold Func.isWrapper; first | (rw [if_pos (by decide +kernel)]; kernel_rfl) | (rw [if_neg (by decide +kernel)]; exact ⟨rfl, rfl⟩))
    (fun os started H enc _ => FnExactRunOrder_lifted os started H enc)
#print axioms FnExactRunOrder_holds
end Go.Proofs.Ytknohbdhbjppjaa
