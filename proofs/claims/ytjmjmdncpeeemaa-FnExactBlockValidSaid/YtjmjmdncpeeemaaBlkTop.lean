/- Row: FnExactBlockValid returns true for every block, and each argument reads behind the call as it read before. Conditions: none. -/
import Derived.Test.YtjmjmdncpeeemaaTop
import Derived.Test.YtjmjmdncpeeemaaBlkLaw
namespace Go.Proofs.Ytjmjmdncpeeemaa
open Go.ChangeShapes Go.WideShapes Go.ChangeAt Go.RowKit

def RBlk (W : World) (cs : List Value) (x : Blk × List Actn) : Prop := ∃ v, cs = [.int .i64 x.1.bf, .int .i64 x.1.ht, .int .i64 x.1.vw, v, .int .i64 x.1.rt, .int .i64 x.1.ef] ∧ SL (RF Actn.enc) 4 W v x.2
set_option maxRecDepth 100000 in
theorem dec_Block : Dec Try.prog 50 6 RBlk := by
  intro H enc W sp held fuel cs x h
  obtain ⟨hl, hf⟩ := trod_fields Try.underlying50 h
  have hl6 : cs.length = 6 := hl.trans (by kernel_rfl)
  refine ⟨hl6, ?_⟩
  match cs, hl6 with
  | [a, b, c, d, e, f], _ =>
    obtain ⟨n0, y0, h0⟩ := hf 0 _ rfl
    obtain ⟨n1, y1, h1⟩ := hf 1 _ rfl
    obtain ⟨n2, y2, h2⟩ := hf 2 _ rfl
    obtain ⟨n3, y3, h3⟩ := hf 3 _ rfl
    obtain ⟨n4, y4, h4⟩ := hf 4 _ rfl
    obtain ⟨n5, y5, h5⟩ := hf 5 _ rfl
    obtain ⟨_, x0, e0, _⟩ := dec_int Try.underlying3 _ enc W sp held _ _ _ h0
    obtain ⟨_, x1, e1, _⟩ := dec_int Try.underlying3 _ enc W sp held _ _ _ h1
    obtain ⟨_, x2, e2, _⟩ := dec_int Try.underlying3 _ enc W sp held _ _ _ h2
    obtain ⟨_, l, v, e3, hs⟩ := dec_ActionS _ enc W sp held _ _ _ h3
    obtain ⟨_, x4, e4, _⟩ := dec_int Try.underlying3 _ enc W sp held _ _ _ h4
    obtain ⟨_, x5, e5, _⟩ := dec_int Try.underlying3 _ enc W sp held _ _ _ h5
    have c48 : Try.prog.cellsOf 48 = 1 := by kernel_rfl
    simp [Try.c_int] at e0 e1 e2 e4 e5
    simp [c48] at e3
    exact ⟨(⟨x0, x1, x2, x4, x5⟩, l), v, by simp [e0, e1, e2, e3, e4, e5], hs⟩
set_option maxRecDepth 100000 in
theorem FnExactBlockValid_lifted (os : Os) (started : os.Started) (H : Type) (enc : TypeId × Value → H) :
    ReturnsInHanded {} Try.checked os 9 .any (Rows.fnExactBlockValidSpec.pre6 enc Try.prog Try.f9 Rows.fnExactBlockValidRow.domain false) (Rows.fnExactBlockValidSpec.post enc Try.prog Try.f9 false true false false) := by
  refine returnsInHanded_of_change (C := Try.checked) Try.own started (by kernel_rfl) Try.func9
    (ChangeSpec.witness6 (enc := enc) (C := Try.checked) false ⟨#[], #[.agg #[.int .i64 0, .int .i64 0, .int .i64 0, .slice none 0 0, .int .i64 0, .int .i64 0]], []⟩ 8 (by kernel_rfl) (by kernel_rfl) (by kernel_rfl) (by kernel_rfl)) ?_
  intro W base args ds gs before hval0 hW _ _
  have hval : ∀ (j : Nat) t v, Try.f9.params[j]? = some t → args[j]? = some v → Value.okWide Try.prog W .any base t v := hval0
  refine law_contract (tb := 4) Try.laidOut (by kernel_rfl) (by kernel_rfl) Try.underlying4 rfl (fun ds hd => ?_) hW ?_
  · match ds, hd with
    | [_], _ => rfl
  · intro p hA
    rw [Try.params9] at hA hval
    obtain ⟨v0, d0, rfl, _, h0⟩ := trodAll_one hA
    obtain ⟨cs, x, rfl, v, rfl, hs⟩ := dec_Block.many (by decide) h0
    exact FnExactBlockValid_any x.1 x.2 v W hs
theorem FnExactBlockValid_holds : Rows.FnExactBlockValidSaid :=
  OpenClaim.holds_of_wide 9 Try.f9 rfl rfl rfl rfl rfl rfl rfl ⟨rfl, rfl, rfl, rfl, rfl⟩ rfl rfl rfl rfl rfl (by kernel_rfl) Try.func9 (by kernel_rfl)
    (of_decide_eq_true (by kernel_rfl)) (by unfold Func.isWrapper; first | (rw [if_pos (by decide +kernel)]; kernel_rfl) | (rw [if_neg (by decide +kernel)]; exact ⟨rfl, rfl⟩))
    (fun os started H enc _ => FnExactBlockValid_lifted os started H enc)
#print axioms FnExactBlockValid_holds
end Go.Proofs.Ytjmjmdncpeeemaa
