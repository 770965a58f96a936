/- Row: FnExactReadVersion returns true for every input, and each argument reads behind the call as it read before. Conditions: none. -/
import Derived.Test.YtjmjmdncpeeemaaTop
import Derived.Test.YtjmjmdncpeeemaaRdV
namespace Go.Proofs.Ytjmjmdncpeeemaa
open Go.ChangeShapes Go.WideShapes Go.ChangeAt Go.RowKit

set_option maxRecDepth 100000 in
theorem FnExactReadVersion_lifted (os : Os) (started : os.Started) (H : Type) (enc : TypeId × Value → H) :
    ReturnsInHanded {} Try.checked os 11 .any (Rows.fnExactReadVersionSpec.pre6 enc Try.prog Try.f11 Rows.fnExactReadVersionRow.domain false) (Rows.fnExactReadVersionSpec.post enc Try.prog Try.f11 false true false false) := by
  refine returnsInHanded_of_change (C := Try.checked) Try.own started (by kernel_rfl) Try.func11
    (ChangeSpec.witness6 (enc := enc) (C := Try.checked) false ⟨#[], #[.slice none 0 0, .slice none 0 0, .int .i64 0, .int .i64 0], []⟩ 8 (by kernel_rfl) (by kernel_rfl) (by kernel_rfl) (by kernel_rfl)) ?_
  intro W base args ds gs before hval0 hW _ _
  have hval : ∀ (j : Nat) t v, Try.f11.params[j]? = some t → args[j]? = some v → Value.okWide Try.prog W .any base t v := hval0
  refine law_contract (tb := 4) Try.laidOut (by kernel_rfl) (by kernel_rfl) Try.underlying4 rfl (fun ds hd => ?_) hW ?_
  · match ds, hd with
    | [_, _, _, _], _ => rfl
  · intro p hA
    rw [Try.params11] at hA hval
    obtain ⟨v0, v1, v2, v3, d0, d1, d2, d3, p0, p1, p2, p3, rfl, _, _, h0, h1, h2, h3⟩ := trodAll_four hA
    obtain ⟨l0, hl0⟩ := open_sl dec_EntryS Try.underlying65 (hval 0 _ v0 rfl rfl) h0
    obtain ⟨l1, hl1⟩ := open_sl dec_VersionS Try.underlying32 (hval 1 _ v1 rfl rfl) h1
    obtain ⟨n2, rfl, _⟩ := open_i (hval 2 _ v2 rfl rfl) h2
    obtain ⟨n3, rfl, _⟩ := open_i (hval 3 _ v3 rfl rfl) h3
    exact FnExactReadVersion_any l0 v0 l1 v1 n2 n3 W hl0 hl1
theorem FnExactReadVersion_holds : Rows.FnExactReadVersionSaid :=
  OpenClaim.holds_of_wide 11 Try.f11 rfl rfl rfl rfl rfl rfl rfl ⟨rfl, rfl, rfl, rfl, rfl⟩ rfl rfl rfl rfl rfl (by kernel_rfl) Try.func11 (by kernel_rfl)
    (of_decide_eq_true (by kernel_rfl)) (by unfold Func.isWrapper; first | (rw [if_pos (by decide +kernel)]; kernel_rfl) | (rw [if_neg (by decide +kernel)]; exact ⟨rfl, rfl⟩))
    (fun os started H enc _ => FnExactReadVersion_lifted os started H enc)
#print axioms FnExactReadVersion_holds
end Go.Proofs.Ytjmjmdncpeeemaa
