/- Walks: blocks. -/
import Derived.Test.YtknohbdhbjppjaaBlk
namespace Go.Proofs.Ytknohbdhbjppjaa
open Go Go.RowKit Go.Proofs

structure Blk where
  (bf ht vw rt ef : Int)
def Blk.okL (b : Blk) (l : List Actn) : Bool := inR b.bf 0 1000002 && (inR b.rt 0 1000002 && (inR b.ef 0 1000002 && (inR b.ht 0 100 && (inR b.vw 0 1000 && actsOk l))))
theorem guards5 (a b c d e : Bool) : a = false ∨ (a = true ∧ b = false) ∨ (a = true ∧ b = true ∧ c = false) ∨ (a = true ∧ b = true ∧ c = true ∧ d = false) ∨ (a = true ∧ b = true ∧ c = true ∧ d = true ∧ e = false) ∨ (a = true ∧ b = true ∧ c = true ∧ d = true ∧ e = true) := by cases a <;> cases b <;> cases c <;> cases d <;> cases e <;> simp

set_option maxHeartbeats 1000000 in
theorem iBlockValid_any (b : Blk) (l : List Actn) (v : Value) (w : World) (h : SL (RF Actn.enc) 4 w v l) : Calls Try.prog 114 #[.agg #[.int .i64 b.bf, .int .i64 b.ht, .int .i64 b.vw, v, .int .i64 b.rt, .int .i64 b.ef]] w fun e w' => e = .returned (.bool (b.okL l)) ∧ Up w w' := by
  have hs := h
  obtain ⟨p, cap, rfl, _, _⟩ := h.open
  have Hs := Lib.hid hs; clear h hs
  rcases guards5 (inR b.bf 0 1000002) (inR b.rt 0 1000002) (inR b.ef 0 1000002) (inR b.ht 0 100) (inR b.vw 0 1000) with h1 | ⟨h1, h2⟩ | ⟨h1, h2, h3⟩ | ⟨h1, h2, h3, h4⟩ | ⟨h1, h2, h3, h4, h5⟩ | ⟨h1, h2, h3, h4, h5⟩
  all_goals
    go_enter Try.func114, Try.ntmps114
    go_wp2_with (first | (go_at_call 152; refine (isSum_any _ _).mono ?_; rintro e w' ⟨rfl, rfl⟩) | (go_at_call 153; refine (isView_any _ _).mono ?_; rintro e w' ⟨rfl, rfl⟩) | (go_at_call 89; refine (in_any _ _ _ _).mono ?_; rintro e w' ⟨rfl, rfl⟩) | (go_at_call 147; refine (iActionsValid_any l _ _ (Hs.out.up (by repeat (first | exact Ext.refl _ | refine Ext.up ?_ _ | refine Ext.alloc ?_ _ | refine Ext.drew ?_ | refine Ext.setRow ?_ (by first | (dsimp only; omega) | exact LeS.le | exact LeS.add _ | (simp; done) | (simp; omega)) _ | refine Ext.setCell ?_ (by first | (dsimp only; omega) | exact LeS.le | exact LeS.add _ | (simp; done) | (simp; omega)) _)))).mono ?_; rintro e w' ⟨rfl, z, rfl⟩))
    go_ret
    exact ⟨by simp [Blk.okL, *], (.of (by repeat (first | exact Ext.refl _ | refine Ext.up ?_ _ | refine Ext.alloc ?_ _ | refine Ext.drew ?_ | refine Ext.setRow ?_ (by first | (dsimp only; omega) | exact LeS.le | exact LeS.add _ | (simp; done) | (simp; omega)) _ | refine Ext.setCell ?_ (by first | (dsimp only; omega) | exact LeS.le | exact LeS.add _ | (simp; done) | (simp; omega)) _)))⟩
set_option maxHeartbeats 1000000 in
theorem sBlockValid_any (b : Blk) (l : List Actn) (v : Value) (w : World) (h : SL (RF Actn.enc) 4 w v l) : Calls Try.prog 105 #[.agg #[.int .i64 b.bf, .int .i64 b.ht, .int .i64 b.vw, v, .int .i64 b.rt, .int .i64 b.ef]] w fun e w' => e = .returned (.bool (b.okL l)) ∧ Up w w' := by
  have hs := h
  obtain ⟨p, cap, rfl, _, _⟩ := h.open
  have Hs := Lib.hid hs; clear h hs
  rcases guards5 (inR b.bf 0 1000002) (inR b.rt 0 1000002) (inR b.ef 0 1000002) (inR b.ht 0 100) (inR b.vw 0 1000) with h1 | ⟨h1, h2⟩ | ⟨h1, h2, h3⟩ | ⟨h1, h2, h3, h4⟩ | ⟨h1, h2, h3, h4, h5⟩ | ⟨h1, h2, h3, h4, h5⟩
  all_goals
    go_enter Try.func105, Try.ntmps105
    go_wp2_with (first | (go_at_call 84; refine (l1In_any _ _ _ _).mono ?_; rintro e w' ⟨rfl, rfl⟩) | (go_at_call 143; refine (sActionsValid_any l _ _ (Hs.out.up (by repeat (first | exact Ext.refl _ | refine Ext.up ?_ _ | refine Ext.alloc ?_ _ | refine Ext.drew ?_ | refine Ext.setRow ?_ (by first | (dsimp only; omega) | exact LeS.le | exact LeS.add _ | (simp; done) | (simp; omega)) _ | refine Ext.setCell ?_ (by first | (dsimp only; omega) | exact LeS.le | exact LeS.add _ | (simp; done) | (simp; omega)) _)))).mono ?_; rintro e w' ⟨rfl, z, rfl⟩))
    go_ret
    exact ⟨by simp [Blk.okL, *], (.of (by repeat (first | exact Ext.refl _ | refine Ext.up ?_ _ | refine Ext.alloc ?_ _ | refine Ext.drew ?_ | refine Ext.setRow ?_ (by first | (dsimp only; omega) | exact LeS.le | exact LeS.add _ | (simp; done) | (simp; omega)) _ | refine Ext.setCell ?_ (by first | (dsimp only; omega) | exact LeS.le | exact LeS.add _ | (simp; done) | (simp; omega)) _)))⟩
theorem szBlock_any (b : Blk) (l : List Actn) (v : Value) (n : Int) (w : World) (h : SL (RF Actn.enc) 4 w v l) (hn0 : 0 ≤ n) (hn1 : n ≤ 1048576) : Calls Try.prog 52 #[.agg #[.int .i64 b.bf, .int .i64 b.ht, .int .i64 b.vw, v, .int .i64 b.rt, .int .i64 b.ef], .int .i64 n] w fun e w' => e = .returned (.int .i64 (if szOf n l.length < 0 then -1 else szOf n l.length)) ∧ Up w w' := by
  have hs := h
  obtain ⟨p, cap, rfl, _, _⟩ := h.open
  have Hs := Lib.hid hs; clear h hs
  by_cases hz : szOf n l.length < 0
  · rw [if_pos hz]
    go_enter Try.func52, Try.ntmps52
    go_wp2_with (go_at_call 35; refine (szActionS_any l _ _ _ (Hs.out.up (by repeat (first | exact Ext.refl _ | refine Ext.up ?_ _ | refine Ext.alloc ?_ _ | refine Ext.drew ?_ | refine Ext.setRow ?_ (by first | (dsimp only; omega) | exact LeS.le | exact LeS.add _ | (simp; done) | (simp; omega)) _ | refine Ext.setCell ?_ (by first | (dsimp only; omega) | exact LeS.le | exact LeS.add _ | (simp; done) | (simp; omega)) _))) hn0 hn1).mono ?_; rintro e w' ⟨rfl, rfl⟩)
    go_ret
    exact ⟨rfl, (.of (by repeat (first | exact Ext.refl _ | refine Ext.up ?_ _ | refine Ext.alloc ?_ _ | refine Ext.drew ?_ | refine Ext.setRow ?_ (by first | (dsimp only; omega) | exact LeS.le | exact LeS.add _ | (simp; done) | (simp; omega)) _ | refine Ext.setCell ?_ (by first | (dsimp only; omega) | exact LeS.le | exact LeS.add _ | (simp; done) | (simp; omega)) _)))⟩
  · rw [if_neg hz]
    go_enter Try.func52, Try.ntmps52
    go_wp2_with (go_at_call 35; refine (szActionS_any l _ _ _ (Hs.out.up (by repeat (first | exact Ext.refl _ | refine Ext.up ?_ _ | refine Ext.alloc ?_ _ | refine Ext.drew ?_ | refine Ext.setRow ?_ (by first | (dsimp only; omega) | exact LeS.le | exact LeS.add _ | (simp; done) | (simp; omega)) _ | refine Ext.setCell ?_ (by first | (dsimp only; omega) | exact LeS.le | exact LeS.add _ | (simp; done) | (simp; omega)) _))) hn0 hn1).mono ?_; rintro e w' ⟨rfl, rfl⟩)
    go_ret
    exact ⟨rfl, (.of (by repeat (first | exact Ext.refl _ | refine Ext.up ?_ _ | refine Ext.alloc ?_ _ | refine Ext.drew ?_ | refine Ext.setRow ?_ (by first | (dsimp only; omega) | exact LeS.le | exact LeS.add _ | (simp; done) | (simp; omega)) _ | refine Ext.setCell ?_ (by first | (dsimp only; omega) | exact LeS.le | exact LeS.add _ | (simp; done) | (simp; omega)) _)))⟩
set_option maxHeartbeats 1000000 in
theorem eqBlock_same (b : Blk) (l : List Actn) (v v' : Value) (w : World) (h : SL (RF Actn.enc) 4 w v l) (h' : SL (RF Actn.enc) 4 w v' l) : Calls Try.prog 18 #[.agg #[.int .i64 b.bf, .int .i64 b.ht, .int .i64 b.vw, v, .int .i64 b.rt, .int .i64 b.ef], .agg #[.int .i64 b.bf, .int .i64 b.ht, .int .i64 b.vw, v', .int .i64 b.rt, .int .i64 b.ef]] w fun e w' => e = .returned (.bool true) ∧ Up w w' := by
  have hs := h; have hs' := h'
  obtain ⟨p, cap, rfl, _, _⟩ := h.open
  obtain ⟨p', cap', rfl, _, _⟩ := h'.open
  have Hs := Lib.hid hs; have Hs' := Lib.hid hs'; clear h hs h' hs'
  go_enter Try.func18, Try.ntmps18
  go_wp2_with (go_at_call 41; refine (eqActionS_same l _ _ _ (Hs.out.up (by repeat (first | exact Ext.refl _ | refine Ext.up ?_ _ | refine Ext.alloc ?_ _ | refine Ext.drew ?_ | refine Ext.setRow ?_ (by first | (dsimp only; omega) | exact LeS.le | exact LeS.add _ | (simp; done) | (simp; omega)) _ | refine Ext.setCell ?_ (by first | (dsimp only; omega) | exact LeS.le | exact LeS.add _ | (simp; done) | (simp; omega)) _))) (Hs'.out.up (by repeat (first | exact Ext.refl _ | refine Ext.up ?_ _ | refine Ext.alloc ?_ _ | refine Ext.drew ?_ | refine Ext.setRow ?_ (by first | (dsimp only; omega) | exact LeS.le | exact LeS.add _ | (simp; done) | (simp; omega)) _ | refine Ext.setCell ?_ (by first | (dsimp only; omega) | exact LeS.le | exact LeS.add _ | (simp; done) | (simp; omega)) _)))).mono ?_; rintro e w' ⟨rfl, z, rfl⟩)
  go_ret
  exact ⟨rfl, (.of (by repeat (first | exact Ext.refl _ | refine Ext.up ?_ _ | refine Ext.alloc ?_ _ | refine Ext.drew ?_ | refine Ext.setRow ?_ (by first | (dsimp only; omega) | exact LeS.le | exact LeS.add _ | (simp; done) | (simp; omega)) _ | refine Ext.setCell ?_ (by first | (dsimp only; omega) | exact LeS.le | exact LeS.add _ | (simp; done) | (simp; omega)) _)))⟩
end Go.Proofs.Ytknohbdhbjppjaa
