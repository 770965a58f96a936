/- Row: FnExactBlockRight returns true for every block and every store, and each argument reads behind the call as it read before. Conditions: none. -/
import Derived.Test.YtknohbdhbjppjaaGBRTop03
import Derived.Test.YtknohbdhbjppjaaGBRTop27
set_option linter.unusedSimpArgs false
set_option linter.unusedVariables false
namespace Go.Proofs.Ytknohbdhbjppjaa
open Go.ChangeShapes Go.WideShapes Go.ChangeAt Go.RowKit

set_option maxRecDepth 100000 in
theorem FnExactBlockRight_lifted (os : Os) (started : os.Started) (H : Type) (enc : TypeId × Value → H) :
    ReturnsInHanded {} Try.checked os 8 .any (Rows.fnExactBlockRightSpec.pre6 enc Try.prog Try.f8 Rows.fnExactBlockRightRow.domain false) (Rows.fnExactBlockRightSpec.post enc Try.prog Try.f8 false true false false) := by
  refine returnsInHanded_of_change (C := Try.checked) Try.own started (by kernel_rfl) Try.func8
    (ChangeSpec.witness6 (enc := enc) (C := Try.checked) false ⟨#[], #[.agg #[.int .i64 0, .int .i64 0, .int .i64 0, .slice none 0 0, .int .i64 0, .int .i64 0], .slice none 0 0], []⟩ 8 (by kernel_rfl) (by kernel_rfl) (by kernel_rfl) (by kernel_rfl)) ?_
  intro W base args ds gs before hval0 hW _ _
  have hval : ∀ (j : Nat) t v, Try.f8.params[j]? = some t → args[j]? = some v → Value.okWide Try.prog W .any base t v := hval0
  refine law_contract (tb := 4) Try.laidOut (by kernel_rfl) (by kernel_rfl) Try.underlying4 rfl (fun ds hd => ?_) hW ?_
  · match ds, hd with
    | [_, _], _ => rfl
  · intro p hA
    rw [Try.params8] at hA hval
    obtain ⟨v0, v1, d0, d1, p0, p1, rfl, _, _, h0, h1⟩ := trodAll_two hA
    obtain ⟨cs, x, rfl, v, rfl, hs⟩ := dec_Block.many (by decide) h0
    obtain ⟨l1, hl1⟩ := open_sl dec_EntryS Try.underlying22 (hval 1 _ v1 rfl rfl) h1
    exact FnExactBlockRight_any x.1 x.2 v l1 v1 W hs hl1
theorem FnExactBlockRight_closed : joinedFacts Try.prog 8 Try.f8 Rows.fnExactBlockRightSpec Rows.fnExactBlockRightRow = true := by
  unfold joinedFacts
  rw [Try.mayEnter, Try.lifts, Try.make]
  kernel_rfl
theorem FnExactBlockRight_holds : Rows.FnExactBlockRightSaid :=
  OpenClaim.holds_of_wide 8 Try.f8 rfl rfl rfl rfl rfl rfl rfl ⟨rfl, rfl, rfl, rfl, rfl⟩ rfl rfl rfl rfl rfl (by kernel_rfl) Try.func8 FnExactBlockRight_closed
    (of_decide_eq_true (by kernel_rfl)) (by unfold Func.isWrapper; first | (rw [if_pos (by decide +kernel)]; kernel_rfl) | (rw [if_neg (by decide +kernel)]; exact ⟨rfl, rfl⟩))
    (fun os started H enc _ => FnExactBlockRight_lifted os started H enc)
#print axioms FnExactBlockRight_holds
end Go.Proofs.Ytknohbdhbjppjaa
