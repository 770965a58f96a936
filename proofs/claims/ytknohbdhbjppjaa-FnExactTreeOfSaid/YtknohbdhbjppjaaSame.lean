/- Walks: blocks that are compared with the first one. -/
import Derived.Test.YtknohbdhbjppjaaFst
namespace Go.Proofs.Ytknohbdhbjppjaa
open Go Go.RowKit Go.Proofs

theorem guards6 (a b c d e f : Bool) : a = false ∨ (a = true ∧ b = false) ∨ (a = true ∧ b = true ∧ c = false) ∨ (a = true ∧ b = true ∧ c = true ∧ d = false) ∨ (a = true ∧ b = true ∧ c = true ∧ d = true ∧ e = false) ∨ (a = true ∧ b = true ∧ c = true ∧ d = true ∧ e = true ∧ f = false) ∨ (a = true ∧ b = true ∧ c = true ∧ d = true ∧ e = true ∧ f = true) := by cases a <;> cases b <;> cases c <;> cases d <;> cases e <;> cases f <;> simp
theorem eqActs_nil (l : List Actn) (v : Value) (w : World) (h : SL (RF Actn.enc) 4 w v l) :
    Calls Try.prog 150 #[v, .slice none 0 0] w fun e w' => e = .returned (.bool ((l.length : Int) == 0)) ∧ w = w' := by
  obtain ⟨p, cap, rfl, _, _⟩ := h.openc
  clear h
  rcases hz : ((l.length : Int) == 0) with _ | _
  · have hz' : ((l.length : Int) != 0) = true := by rw [bne, hz]; rfl
    go_enter Try.func150, Try.ntmps150
    go_wp2_with fail
    go_ret
    exact ⟨rfl, rfl⟩
  · have hl : l.length = 0 := by simpa using hz
    rw [hl]
    go_enter Try.func150, Try.ntmps150
    go_wp2
    refine wp_loop_rounds 1 ?_; rw [rounds_succ]
    go_wp2
    go_ret
    exact ⟨rfl, rfl⟩
set_option maxHeartbeats 4000000 in
theorem iSame_any (x : BL) (f : Blk) (v : Value) (w : World) (h : SL (RF Actn.enc) 4 w v x.2) :
    Calls Try.prog 110 #[x.1.agg v, f.agg (.slice none 0 0)] w fun e w' => e = .returned (.bool (sameF x f)) ∧ Up w w' := by
  have H := Lib.hid h
  obtain ⟨p, cap, rfl, _, _⟩ := h.openc
  clear h
  rcases guards6 (x.1.bf == f.bf) (x.1.ht == f.ht) (x.1.vw == f.vw) (x.1.rt == f.rt) (x.1.ef == f.ef) ((x.2.length : Int) == 0) with h1 | ⟨h1, h2⟩ | ⟨h1, h2, h3⟩ | ⟨h1, h2, h3, h4⟩ | ⟨h1, h2, h3, h4, h5⟩ | ⟨h1, h2, h3, h4, h5, h6⟩ | ⟨h1, h2, h3, h4, h5, h6⟩
  all_goals
    unfold Blk.agg
    go_enter Try.func110, Try.ntmps110
    go_wp2_with (go_at_call 150; refine (eqActs_nil x.2 _ _ (H.out.up (by repeat (first | exact Ext.refl _ | refine Ext.up ?_ _ | refine Ext.alloc ?_ _ | refine Ext.drew ?_ | refine Ext.setRow ?_ (by first | (dsimp only; omega) | exact LeS.le | exact LeS.add _ | (simp; done) | (simp; omega)) _ | refine Ext.setCell ?_ (by first | (dsimp only; omega) | exact LeS.le | exact LeS.add _ | (simp; done) | (simp; omega)) _)))).mono ?_; rintro e w' ⟨rfl, rfl⟩)
    go_ret
    exact ⟨by simp only [sameF, h1, *, Bool.true_and, Bool.false_and] <;> rfl, (.of (by repeat (first | exact Ext.refl _ | refine Ext.up ?_ _ | refine Ext.alloc ?_ _ | refine Ext.drew ?_ | refine Ext.setRow ?_ (by first | (dsimp only; omega) | exact LeS.le | exact LeS.add _ | (simp; done) | (simp; omega)) _ | refine Ext.setCell ?_ (by first | (dsimp only; omega) | exact LeS.le | exact LeS.add _ | (simp; done) | (simp; omega)) _)))⟩
set_option maxHeartbeats 4000000 in
theorem sSame_any (x : BL) (f : Blk) (v : Value) (w : World) (h : SL (RF Actn.enc) 4 w v x.2) :
    Calls Try.prog 108 #[x.1.agg v, f.agg (.slice none 0 0)] w fun e w' => e = .returned (.bool (sameF x f)) ∧ Up w w' := by
  have H := Lib.hid h
  obtain ⟨p, cap, rfl, _, _⟩ := h.openc
  clear h
  have b1 : (x.1.bf != f.bf) = !(x.1.bf == f.bf) := rfl
  have b2 : (x.1.ht != f.ht) = !(x.1.ht == f.ht) := rfl
  have b3 : (x.1.vw != f.vw) = !(x.1.vw == f.vw) := rfl
  have b4 : (x.1.rt != f.rt) = !(x.1.rt == f.rt) := rfl
  have b5 : (x.1.ef != f.ef) = !(x.1.ef == f.ef) := rfl
  have b6 : ((x.2.length : Int) != 0) = !((x.2.length : Int) == 0) := rfl
  rcases guards6 (x.1.bf == f.bf) (x.1.ht == f.ht) (x.1.vw == f.vw) (x.1.rt == f.rt) (x.1.ef == f.ef) ((x.2.length : Int) == 0) with h1 | ⟨h1, h2⟩ | ⟨h1, h2, h3⟩ | ⟨h1, h2, h3, h4⟩ | ⟨h1, h2, h3, h4, h5⟩ | ⟨h1, h2, h3, h4, h5, h6⟩ | ⟨h1, h2, h3, h4, h5, h6⟩
  case inr.inr.inr.inr.inr.inr =>
    rw [h1] at b1; rw [h2] at b2; rw [h3] at b3; rw [h4] at b4; rw [h5] at b5; rw [h6] at b6
    have hl : x.2.length = 0 := by simpa using h6
    unfold Blk.agg
    rw [hl] at b6 ⊢
    go_enter Try.func108, Try.ntmps108
    go_wp2
    refine wp_loop_rounds 1 ?_; rw [rounds_succ]
    go_wp2
    go_ret
    exact ⟨by simp only [sameF, h1, h2, h3, h4, h5, h6, Bool.true_and, Bool.false_and] <;> rfl, (.of (by repeat (first | exact Ext.refl _ | refine Ext.up ?_ _ | refine Ext.alloc ?_ _ | refine Ext.drew ?_ | refine Ext.setRow ?_ (by first | (dsimp only; omega) | exact LeS.le | exact LeS.add _ | (simp; done) | (simp; omega)) _ | refine Ext.setCell ?_ (by first | (dsimp only; omega) | exact LeS.le | exact LeS.add _ | (simp; done) | (simp; omega)) _)))⟩
  all_goals
    try rw [h1] at b1
    try rw [h2] at b2
    try rw [h3] at b3
    try rw [h4] at b4
    try rw [h5] at b5
    try rw [h6] at b6
    unfold Blk.agg
    go_enter Try.func108, Try.ntmps108
    go_wp2_with fail
    go_ret
    exact ⟨by simp only [sameF, h1, *, Bool.true_and, Bool.false_and] <;> rfl, (.of (by repeat (first | exact Ext.refl _ | refine Ext.up ?_ _ | refine Ext.alloc ?_ _ | refine Ext.drew ?_ | refine Ext.setRow ?_ (by first | (dsimp only; omega) | exact LeS.le | exact LeS.add _ | (simp; done) | (simp; omega)) _ | refine Ext.setCell ?_ (by first | (dsimp only; omega) | exact LeS.le | exact LeS.add _ | (simp; done) | (simp; omega)) _)))⟩
end Go.Proofs.Ytknohbdhbjppjaa
