/- Row: the law FnExactConflict returns true for every two actions, and each argument reads behind the call as it read before. Conditions: none. -/
import Derived.Test.YtjmjmdncpeeemaaTop
import Derived.Test.YtjmjmdncpeeemaaConfLaw
namespace Go.Proofs.Ytjmjmdncpeeemaa
open Go.ChangeShapes Go.WideShapes Go.ChangeAt Go.RowKit

set_option maxRecDepth 100000 in
theorem FnExactConflict_lifted (os : Os) (started : os.Started) (H : Type) (enc : TypeId × Value → H) :
    ReturnsInHanded {} Try.checked os 7 .any (Rows.fnExactConflictSpec.pre6 enc Try.prog Try.f7 Rows.fnExactConflictRow.domain false) (Rows.fnExactConflictSpec.post enc Try.prog Try.f7 false true false false) := by
  refine returnsInHanded_of_change (C := Try.checked) Try.own started (by kernel_rfl) Try.func7
    (ChangeSpec.witness6 (enc := enc) (C := Try.checked) false ⟨#[], #[.agg #[.int .i64 0, .int .i64 0, .int .i64 0, .int .i64 0], .agg #[.int .i64 0, .int .i64 0, .int .i64 0, .int .i64 0]], []⟩ 8 (by kernel_rfl) (by kernel_rfl) (by kernel_rfl) (by kernel_rfl)) ?_
  intro W base args ds gs before hval0 hW _ _
  have hval : ∀ (j : Nat) t v, Try.f7.params[j]? = some t → args[j]? = some v → Value.okWide Try.prog W .any base t v := hval0
  refine law_contract (tb := 4) Try.laidOut (by kernel_rfl) (by kernel_rfl) Try.underlying4 rfl (fun ds hd => ?_) hW ?_
  · match ds, hd with
    | [_, _], _ => rfl
  · intro p hA
    rw [Try.params7] at hA hval
    obtain ⟨v0, v1, d0, d1, p0, p1, rfl, _, _, h0, h1⟩ := trodAll_two hA
    obtain ⟨cs, x, rfl, rfl⟩ := dec_Action.many (by decide) h0
    obtain ⟨cs, y, rfl, rfl⟩ := dec_Action.many (by decide) h1
    exact FnExactConflict_any x y W
theorem FnExactConflict_holds : Rows.FnExactConflictSaid :=
  OpenClaim.holds_of_wide 7 Try.f7 rfl rfl rfl rfl rfl rfl rfl ⟨rfl, rfl, rfl, rfl, rfl⟩ rfl rfl rfl rfl rfl (by kernel_rfl) Try.func7 (by kernel_rfl)
    (of_decide_eq_true (by kernel_rfl)) (by unfold Func.isWrapper; first | (rw [if_pos (by decide +kernel)]; kernel_rfl) | (rw [if_neg (by decide +kernel)]; exact ⟨rfl, rfl⟩))
    (fun os started H enc _ => FnExactConflict_lifted os started H enc)
#print axioms FnExactConflict_holds
end Go.Proofs.Ytjmjmdncpeeemaa
