/- Row: FnExactOrderFits returns true for every input, and each argument reads behind the call as it read before. Conditions: none. -/
import Derived.Test.YtjmjmdncpeeemaaTop
import Derived.Test.YtjmjmdncpeeemaaOrd2
namespace Go.Proofs.Ytjmjmdncpeeemaa
open Go.ChangeShapes Go.WideShapes Go.ChangeAt Go.RowKit

set_option maxRecDepth 100000 in
theorem FnExactOrderFits_lifted (os : Os) (started : os.Started) (H : Type) (enc : TypeId × Value → H) :
    ReturnsInHanded {} Try.checked os 13 .any (Rows.fnExactOrderFitsSpec.pre6 enc Try.prog Try.f13 Rows.fnExactOrderFitsRow.domain false) (Rows.fnExactOrderFitsSpec.post enc Try.prog Try.f13 false true false false) := by
  refine returnsInHanded_of_change (C := Try.checked) Try.own started (by kernel_rfl) Try.func13
    (ChangeSpec.witness6 (enc := enc) (C := Try.checked) false ⟨#[], #[.slice none 0 0, .slice none 0 0], []⟩ 8 (by kernel_rfl) (by kernel_rfl) (by kernel_rfl) (by kernel_rfl)) ?_
  intro W base args ds gs before hval0 hW _ _
  have hval : ∀ (j : Nat) t v, Try.f13.params[j]? = some t → args[j]? = some v → Value.okWide Try.prog W .any base t v := hval0
  refine law_contract (tb := 4) Try.laidOut (by kernel_rfl) (by kernel_rfl) Try.underlying4 rfl (fun ds hd => ?_) hW ?_
  · match ds, hd with
    | [_, _], _ => rfl
  · intro p hA
    rw [Try.params13] at hA hval
    obtain ⟨v0, v1, d0, d1, p0, p1, rfl, _, _, h0, h1⟩ := trodAll_two hA
    obtain ⟨l0, hl0⟩ := open_sl dec_ActionS Try.underlying48 (hval 0 _ v0 rfl rfl) h0
    obtain ⟨l1, hl1⟩ := open_sl dec_IntS Try.underlying74 (hval 1 _ v1 rfl rfl) h1
    exact FnExactOrderFits_any l0 v0 l1 v1 W hl0 hl1
theorem FnExactOrderFits_holds : Rows.FnExactOrderFitsSaid :=
  OpenClaim.holds_of_wide 13 Try.f13 rfl rfl rfl rfl rfl rfl rfl ⟨rfl, rfl, rfl, rfl, rfl⟩ rfl rfl rfl rfl rfl (by kernel_rfl) Try.func13 (by kernel_rfl)
    (of_decide_eq_true (by kernel_rfl)) (by unfold Func.isWrapper; first | (rw [if_pos (by decide +kernel)]; kernel_rfl) | (rw [if_neg (by decide +kernel)]; exact ⟨rfl, rfl⟩))
    (fun os started H enc _ => FnExactOrderFits_lifted os started H enc)
#print axioms FnExactOrderFits_holds
end Go.Proofs.Ytjmjmdncpeeemaa
