/- Row: FnExactTriesOf returns true for every engine, and each argument reads behind the call as it read before. Conditions: none. -/
import Derived.Test.YtkboefmkfpnpjaaGEvTop19
import Derived.Test.YtkboefmkfpnpjaaGEvTop32
set_option linter.unusedSimpArgs false
set_option linter.unusedVariables false
namespace Go.Proofs.Ytkboefmkfpnpjaa
open Go.ChangeShapes Go.WideShapes Go.ChangeAt Go.RowKit

set_option maxRecDepth 100000 in
theorem FnExactTriesOf_lifted (os : Os) (started : os.Started) (H : Type) (enc : TypeId × Value → H) :
    ReturnsInHanded {} Try.checked os 11 .any (Rows.fnExactTriesOfSpec.pre6 enc Try.prog Try.f11 Rows.fnExactTriesOfRow.domain false) (Rows.fnExactTriesOfSpec.post enc Try.prog Try.f11 false true false false) := by
  refine returnsInHanded_of_change (C := Try.checked) Try.own started (by kernel_rfl) Try.func11
    (ChangeSpec.witness6 (enc := enc) (C := Try.checked) false ⟨#[], #[.agg #[.slice none 0 0, .slice none 0 0, .slice none 0 0, .slice none 0 0]], []⟩ 8 (by kernel_rfl) (by kernel_rfl) (by kernel_rfl) (by kernel_rfl)) ?_
  intro W base args ds gs before hval0 hW _ _
  have hval : ∀ (j : Nat) t v, Try.f11.params[j]? = some t → args[j]? = some v → Value.okWide Try.prog W .any base t v := hval0
  refine law_contract (tb := 4) Try.laidOut (by kernel_rfl) (by kernel_rfl) Try.underlying4 rfl (fun ds hd => ?_) hW ?_
  · match ds, hd with
    | [_], _ => rfl
  · intro p hA
    rw [Try.params11] at hA hval
    obtain ⟨v0, d0, rfl, _, h0⟩ := trodAll_one hA
    obtain ⟨cs, x, rfl, u0, u1, u2, u3, rfl, hs⟩ := dec_Engine.many (by decide) h0
    exact FnExactTriesOf_any x u0 u1 u2 u3 W hs
theorem FnExactTriesOf_closed : joinedFacts Try.prog 11 Try.f11 Rows.fnExactTriesOfSpec Rows.fnExactTriesOfRow = true := by
  unfold joinedFacts
  rw [Try.mayEnter, Try.lifts, Try.make]
  kernel_rfl
theorem FnExactTriesOf_holds : Rows.FnExactTriesOfSaid :=
  OpenClaim.holds_of_wide 11 Try.f11 rfl rfl rfl rfl rfl rfl rfl ⟨rfl, rfl, rfl, rfl, rfl⟩ rfl rfl rfl rfl rfl (by kernel_rfl) Try.func11 FnExactTriesOf_closed
    (of_decide_eq_true (by kernel_rfl)) (by unfold Func.isWrapper; first | (rw [if_pos (by decide +kernel)]; kernel_rfl) | (rw [if_neg (by decide +kernel)]; exact ⟨rfl, rfl⟩))
    (fun os started H enc _ => FnExactTriesOf_lifted os started H enc)
#print axioms FnExactTriesOf_holds
end Go.Proofs.Ytkboefmkfpnpjaa
