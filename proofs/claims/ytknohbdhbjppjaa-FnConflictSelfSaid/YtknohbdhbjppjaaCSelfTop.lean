/- Row: FnConflictSelf returns true for every input, and each argument reads behind the call as it read before. Conditions: none. -/
import Derived.Test.YtknohbdhbjppjaaCSelf
namespace Go.Proofs.Ytknohbdhbjppjaa
open Go.ChangeShapes Go.WideShapes Go.ChangeAt Go.RowKit

def RByte (_ : World) (cs : List Value) (n : Int) : Prop := cs = encU n ∧ 0 ≤ n ∧ n ≤ 255
theorem SL.of_byte {w : World} {v : Value} {l : List Int} (h : SL RByte 1 w v l) : SL (RF encU) 1 w v l ∧ ∀ b ∈ l, 0 ≤ b ∧ b ≤ 255 := by
  obtain ⟨a, cap, hv, hl, hc⟩ := h
  refine ⟨⟨a, cap, hv, hl, fun hne => ?_⟩, fun b hb => ?_⟩
  · obtain ⟨b, off, ha, hb, hx⟩ := hc hne
    refine ⟨b, off, ha, hb, fun i x hi => ?_⟩
    obtain ⟨cs, h1, h2, h3⟩ := hx i x hi
    exact ⟨cs, h1, h2, h3.1⟩
  · obtain ⟨i, hi⟩ := List.getElem?_of_mem hb
    obtain ⟨_, _, _, _, hx⟩ := hc (by intro e; subst e; simp at hb)
    obtain ⟨_, _, _, h3⟩ := hx i b hi
    exact h3.2
theorem dec_Byte : Dec Try.prog 5 1 RByte := by
  intro H enc W sp held fuel cs x h
  obtain ⟨n, rfl, _, hw⟩ := DataW.trod_int (k := .u8) Try.underlying5 h
  have hb : 0 ≤ n ∧ n ≤ 255 := by
    simp [Lit.wf, IntKind.min, IntKind.max, IntKind.signed, IntKind.bits] at hw
    omega
  exact ⟨rfl, n, rfl, hb.1, hb.2⟩
theorem dec_Bytes : Dec Try.prog 84 1 (RSl RByte 1) := dec_slice Try.underlying84 (by kernel_rfl) (by decide) dec_Byte
set_option maxRecDepth 100000 in
theorem FnConflictSelf_lifted (os : Os) (started : os.Started) (H : Type) (enc : TypeId × Value → H) :
    ReturnsInHanded {} Try.checked os 13 .any (Rows.fnConflictSelfSpec.pre6 enc Try.prog Try.f13 Rows.fnConflictSelfRow.domain false) (Rows.fnConflictSelfSpec.post enc Try.prog Try.f13 false true false false) := by
  refine returnsInHanded_of_change (C := Try.checked) Try.own started (by kernel_rfl) Try.func13
    (ChangeSpec.witness6 (enc := enc) (C := Try.checked) false ⟨#[], #[.slice none 0 0], []⟩ 8 (by kernel_rfl) (by kernel_rfl) (by kernel_rfl) (by kernel_rfl)) ?_
  intro W base args ds gs before hval0 hW _ _
  have hval : ∀ (j : Nat) t v, Try.f13.params[j]? = some t → args[j]? = some v → Value.okWide Try.prog W .any base t v := hval0
  refine law_contract (tb := 4) Try.laidOut (by kernel_rfl) (by kernel_rfl) Try.underlying4 rfl (fun ds hd => ?_) hW ?_
  · match ds, hd with
    | [_], _ => rfl
  · intro p hA
    rw [Try.params13] at hA hval
    obtain ⟨v0, d0, rfl, _, h0⟩ := trodAll_one hA
    obtain ⟨l0, hl0⟩ := open_sl dec_Bytes Try.underlying84 (hval 0 _ v0 rfl rfl) h0
    exact FnConflictSelf_any l0 v0 W (SL.of_byte hl0).1 (SL.of_byte hl0).2
theorem FnConflictSelf_closed : joinedFacts Try.prog 13 Try.f13 Rows.fnConflictSelfSpec Rows.fnConflictSelfRow = true := by
  unfold joinedFacts
  rw [Try.mayEnter, Try.lifts, Try.make]
  kernel_rfl
theorem FnConflictSelf_holds : Rows.FnConflictSelfSaid :=
  OpenClaim.holds_of_wide 13 Try.f13 rfl rfl rfl rfl rfl rfl rfl ⟨rfl, rfl, rfl, rfl, rfl⟩ rfl rfl rfl rfl rfl (by kernel_rfl) Try.func13 FnConflictSelf_closed
    (of_decide_eq_true (by kernel_rfl)) (by unfold Func.isWrapper; first | (rw [if_pos (by decide +kernel)]; kernel_rfl) | (rw [if_neg (by decide +kernel)]; exact ⟨rfl, rfl⟩))
    (fun os started H enc _ => FnConflictSelf_lifted os started H enc)
#print axioms FnConflictSelf_holds
end Go.Proofs.Ytknohbdhbjppjaa
