/- Rows: the laws on certificates: FnExactCertValid returns true for every input, and each argument reads behind the call as it read before. Conditions: none. -/
import Derived.Test.YtjmjmdncpeeemaaRows
import Derived.Test.YtjmjmdncpeeemaaRead
import Derived.Test.YtjmjmdncpeeemaaCert
namespace Go.Proofs.Ytjmjmdncpeeemaa
open Go.ChangeShapes Go.WideShapes Go.ChangeAt Go.RowKit

theorem Try.own : ownKnob Try.prog.godebug = none := by kernel_rfl
theorem Try.laidOut : laidOutB Try.prog = true := by kernel_rfl

def RCert (_ : World) (cs : List Value) (x : Int × Int × Int) : Prop := cs = [.int .i64 x.1, .int .i64 x.2.1, .int .i64 x.2.2]
set_option maxRecDepth 100000 in
theorem dec_cert : Dec Try.prog 23 3 RCert := by
  intro H enc W sp held fuel cs x h
  obtain ⟨hl, hf⟩ := trod_fields Try.underlying23 h
  have hl3 : cs.length = 3 := hl.trans (by kernel_rfl)
  refine ⟨hl3, ?_⟩
  match cs, hl3 with
  | [a, b, c], _ =>
    obtain ⟨n0, y0, h0⟩ := hf 0 _ rfl
    obtain ⟨n1, y1, h1⟩ := hf 1 _ rfl
    obtain ⟨n2, y2, h2⟩ := hf 2 _ rfl
    obtain ⟨_, x0, e0, _⟩ := dec_int Try.underlying3 _ enc W sp held _ _ _ h0
    obtain ⟨_, x1, e1, _⟩ := dec_int Try.underlying3 _ enc W sp held _ _ _ h1
    obtain ⟨_, x2, e2, _⟩ := dec_int Try.underlying3 _ enc W sp held _ _ _ h2
    have c3 : Try.prog.cellsOf 3 = 1 := by kernel_rfl
    simp [c3] at e0 e1 e2
    exact ⟨(x0, x1, x2), by simp [RCert, e0, e1, e2]⟩

set_option maxRecDepth 100000 in
theorem FnExactCertValid_lifted (os : Os) (started : os.Started) (H : Type) (enc : TypeId × Value → H) :
    ReturnsInHanded {} Try.checked os 3 .any (Rows.fnExactCertValidSpec.pre6 enc Try.prog Try.f3 Rows.fnExactCertValidRow.domain false) (Rows.fnExactCertValidSpec.post enc Try.prog Try.f3 false true false false) := by
  refine returnsInHanded_of_change (C := Try.checked) Try.own started (by kernel_rfl) Try.func3
    (ChangeSpec.witness6 (enc := enc) (C := Try.checked) false ⟨#[], #[.agg #[.int .i64 0, .int .i64 0, .int .i64 0]], []⟩ 8 (by kernel_rfl) (by kernel_rfl) (by kernel_rfl) (by kernel_rfl)) ?_
  intro W base args ds gs before _ hW _ _
  refine law_contract (tb := 4) Try.laidOut (by kernel_rfl) (by kernel_rfl) Try.underlying4 rfl (fun ds hd => ?_) hW ?_
  · match ds, hd with
    | [_], _ => rfl
  · intro p hA
    rw [Try.params3] at hA
    obtain ⟨v0, d0, rfl, _, h0⟩ := trodAll_one hA
    obtain ⟨cs, x, rfl, rfl⟩ := dec_cert.many (by decide) h0
    exact FnExactCertValid_any _ _ _ W

theorem FnExactCertValid_holds : Rows.FnExactCertValidSaid :=
  OpenClaim.holds_of_wide 3 Try.f3 rfl rfl rfl rfl rfl rfl rfl ⟨rfl, rfl, rfl, rfl, rfl⟩ rfl rfl rfl rfl rfl (by kernel_rfl) Try.func3 (by kernel_rfl)
    (of_decide_eq_true (by kernel_rfl)) (by unfold Func.isWrapper; first | (rw [if_pos (by decide +kernel)]; kernel_rfl) | (rw [if_neg (by decide +kernel)]; exact ⟨rfl, rfl⟩))
    (fun os started H enc _ => FnExactCertValid_lifted os started H enc)
#print axioms FnExactCertValid_holds
end Go.Proofs.Ytjmjmdncpeeemaa
