/- Rows: FnExactFindBlock and FnExactIsBefore return true for every input, and each argument reads behind the call as it read before. Conditions: none. -/
import Derived.Test.YtknohbdhbjppjaaTreeDec
import Derived.Test.YtknohbdhbjppjaaPathLaw
namespace Go.Proofs.Ytknohbdhbjppjaa
open Go.ChangeShapes Go.WideShapes Go.ChangeAt Go.RowKit

set_option maxRecDepth 100000 in
theorem FnExactFindBlock_lifted (os : Os) (started : os.Started) (H : Type) (enc : TypeId × Value → H) :
    ReturnsInHanded {} Try.checked os 10 .any (Rows.fnExactFindBlockSpec.pre6 enc Try.prog Try.f10 Rows.fnExactFindBlockRow.domain false) (Rows.fnExactFindBlockSpec.post enc Try.prog Try.f10 false true false false) := by
  refine returnsInHanded_of_change (C := Try.checked) Try.own started (by kernel_rfl) Try.func10
    (ChangeSpec.witness6 (enc := enc) (C := Try.checked) false ⟨#[], #[.agg #[.slice none 0 0, .slice none 0 0, .slice none 0 0], .int .i64 0], []⟩ 8 (by kernel_rfl) (by kernel_rfl) (by kernel_rfl) (by kernel_rfl)) ?_
  intro W base args ds gs before hval0 hW _ _
  have hval : ∀ (j : Nat) t v, Try.f10.params[j]? = some t → args[j]? = some v → Value.okWide Try.prog W .any base t v := hval0
  refine law_contract (tb := 4) Try.laidOut (by kernel_rfl) (by kernel_rfl) Try.underlying4 rfl (fun ds hd => ?_) hW ?_
  · match ds, hd with
    | [_, _], _ => rfl
  · intro p hA
    rw [Try.params10] at hA hval
    obtain ⟨v0, v1, d0, d1, p0, p1, rfl, _, _, h0, h1⟩ := trodAll_two hA
    obtain ⟨cs, x, rfl, u0, u1, u2, rfl, hs⟩ := dec_BlockTree.many (by decide) h0
    obtain ⟨n1, rfl, _⟩ := open_i (hval 1 _ v1 rfl rfl) h1
    exact FnExactFindBlock_any x u0 u1 u2 n1 W hs
theorem FnExactFindBlock_closed : joinedFacts Try.prog 10 Try.f10 Rows.fnExactFindBlockSpec Rows.fnExactFindBlockRow = true := by
  unfold joinedFacts
  rw [Try.mayEnter, Try.lifts, Try.make]
  kernel_rfl
theorem FnExactFindBlock_holds : Rows.FnExactFindBlockSaid :=
  OpenClaim.holds_of_wide 10 Try.f10 rfl rfl rfl rfl rfl rfl rfl ⟨rfl, rfl, rfl, rfl, rfl⟩ rfl rfl rfl rfl rfl (by kernel_rfl) Try.func10 FnExactFindBlock_closed
    (of_decide_eq_true (by kernel_rfl)) (by unfold Func.isWrapper; first | (rw [if_pos (by decide +kernel)]; kernel_rfl) | (rw [if_neg (by decide +kernel)]; exact ⟨rfl, rfl⟩))
    (fun os started H enc _ => FnExactFindBlock_lifted os started H enc)
#print axioms FnExactFindBlock_holds
set_option maxRecDepth 100000 in
theorem FnExactIsBefore_lifted (os : Os) (started : os.Started) (H : Type) (enc : TypeId × Value → H) :
    ReturnsInHanded {} Try.checked os 11 .any (Rows.fnExactIsBeforeSpec.pre6 enc Try.prog Try.f11 Rows.fnExactIsBeforeRow.domain false) (Rows.fnExactIsBeforeSpec.post enc Try.prog Try.f11 false true false false) := by
  refine returnsInHanded_of_change (C := Try.checked) Try.own started (by kernel_rfl) Try.func11
    (ChangeSpec.witness6 (enc := enc) (C := Try.checked) false ⟨#[], #[.agg #[.slice none 0 0, .slice none 0 0, .slice none 0 0], .int .i64 0, .int .i64 0], []⟩ 8 (by kernel_rfl) (by kernel_rfl) (by kernel_rfl) (by kernel_rfl)) ?_
  intro W base args ds gs before hval0 hW _ _
  have hval : ∀ (j : Nat) t v, Try.f11.params[j]? = some t → args[j]? = some v → Value.okWide Try.prog W .any base t v := hval0
  refine law_contract (tb := 4) Try.laidOut (by kernel_rfl) (by kernel_rfl) Try.underlying4 rfl (fun ds hd => ?_) hW ?_
  · match ds, hd with
    | [_, _, _], _ => rfl
  · intro p hA
    rw [Try.params11] at hA hval
    obtain ⟨v0, v1, v2, d0, d1, d2, p0, p1, p2, rfl, _, _, h0, h1, h2⟩ := trodAll_three hA
    obtain ⟨cs, x, rfl, u0, u1, u2, rfl, hs⟩ := dec_BlockTree.many (by decide) h0
    obtain ⟨n1, rfl, _⟩ := open_i (hval 1 _ v1 rfl rfl) h1
    obtain ⟨n2, rfl, _⟩ := open_i (hval 2 _ v2 rfl rfl) h2
    exact FnExactIsBefore_any x u0 u1 u2 n1 n2 W hs
theorem FnExactIsBefore_closed : joinedFacts Try.prog 11 Try.f11 Rows.fnExactIsBeforeSpec Rows.fnExactIsBeforeRow = true := by
  unfold joinedFacts
  rw [Try.mayEnter, Try.lifts, Try.make]
  kernel_rfl
theorem FnExactIsBefore_holds : Rows.FnExactIsBeforeSaid :=
  OpenClaim.holds_of_wide 11 Try.f11 rfl rfl rfl rfl rfl rfl rfl ⟨rfl, rfl, rfl, rfl, rfl⟩ rfl rfl rfl rfl rfl (by kernel_rfl) Try.func11 FnExactIsBefore_closed
    (of_decide_eq_true (by kernel_rfl)) (by unfold Func.isWrapper; first | (rw [if_pos (by decide +kernel)]; kernel_rfl) | (rw [if_neg (by decide +kernel)]; exact ⟨rfl, rfl⟩))
    (fun os started H enc _ => FnExactIsBefore_lifted os started H enc)
#print axioms FnExactIsBefore_holds
end Go.Proofs.Ytknohbdhbjppjaa
