/- Row: FnExactStoreOf returns true for every input, and each argument reads behind the call as it read before. Conditions: none. -/
import Derived.Test.YtknohbdhbjppjaaGreatGStxTop05
import Derived.Test.YtknohbdhbjppjaaGreatGStxTop22
set_option linter.unusedSimpArgs false
set_option linter.unusedVariables false
namespace Go.Proofs.YtknohbdhbjppjaaGreat
open Go.ChangeShapes Go.WideShapes Go.ChangeAt Go.RowKit

set_option maxRecDepth 100000 in
theorem FnExactStoreOf_lifted (os : Os) (started : os.Started) (H : Type) (enc : TypeId × Value → H) :
    ReturnsInHanded {} Tryz.checked os 3 .any (Rows.fnExactStoreOfSpec.pre6 enc Tryz.prog Tryz.f3 Rows.fnExactStoreOfRow.domain false) (Rows.fnExactStoreOfSpec.post enc Tryz.prog Tryz.f3 false true false false) := by
  refine returnsInHanded_of_change (C := Tryz.checked) Tryz.own started (by kernel_rfl) Tryz.func3
    (ChangeSpec.witness6 (enc := enc) (C := Tryz.checked) false ⟨#[], #[.agg #[.slice none 0 0, .slice none 0 0, .slice none 0 0], .int .i64 0], []⟩ 8 (by kernel_rfl) (by kernel_rfl) (by kernel_rfl) (by kernel_rfl)) ?_
  intro W base args ds gs before hval0 hW _ _
  have hval : ∀ (j : Nat) t v, Tryz.f3.params[j]? = some t → args[j]? = some v → Value.okWide Tryz.prog W .any base t v := hval0
  refine law_contract (tb := 4) Tryz.laidOut (by kernel_rfl) (by kernel_rfl) Tryz.underlying4 rfl (fun ds hd => ?_) hW ?_
  · match ds, hd with
    | [_, _], _ => rfl
  · intro p hA
    rw [Tryz.params3] at hA hval
    obtain ⟨v0, v1, d0, d1, p0, p1, rfl, _, _, h0, h1⟩ := trodAll_two hA
    obtain ⟨cs, x, rfl, u0, u1, u2, rfl, hs⟩ := dec_BlockTree.many (by decide) h0
    obtain ⟨n1, rfl, _⟩ := open_i (hval 1 _ v1 rfl rfl) h1
    exact FnExactStoreOf_any x u0 u1 u2 n1 W hs
theorem FnExactStoreOf_closed : joinedFacts Tryz.prog 3 Tryz.f3 Rows.fnExactStoreOfSpec Rows.fnExactStoreOfRow = true := by
  unfold joinedFacts
  rw [Tryz.mayEnter, Tryz.lifts, Tryz.make]
  kernel_rfl
theorem FnExactStoreOf_holds : Rows.FnExactStoreOfSaid :=
  OpenClaim.holds_of_wide 3 Tryz.f3 rfl rfl rfl rfl rfl rfl rfl ⟨rfl, rfl, rfl, rfl, rfl⟩ rfl rfl rfl rfl rfl (by kernel_rfl) Tryz.func3 FnExactStoreOf_closed
    (of_decide_eq_true (by kernel_rfl)) (by unfold Func.isWrapper; first | (rw [if_pos (by decide +kernel)]; kernel_rfl) | (rw [if_neg (by decide +kernel)]; exact ⟨rfl, rfl⟩))
    (fun os started H enc _ => FnExactStoreOf_lifted os started H enc)
#print axioms FnExactStoreOf_holds
end Go.Proofs.YtknohbdhbjppjaaGreat
