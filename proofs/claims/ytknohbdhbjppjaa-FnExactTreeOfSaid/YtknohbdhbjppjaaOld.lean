/- Plain ground: a slice made by a callee stays behind stores into older blocks. -/
import Derived.Test.YtknohbdhbjppjaaPush
import Derived.Test.YtknohbdhbjppjaaBlk2
namespace Go.Proofs.Ytknohbdhbjppjaa
open Go Go.RowKit Go.Proofs

theorem grownBy_set (w : World) (a : Addr) (u : Value) : w.grownBy (w.setCell a u) (some a.block) := by
  refine ⟨rfl, rfl, rfl, by simp [World.setCell], fun k hk hne => ?_⟩
  have : a.block ≠ k := fun e => hne (by rw [e])
  simp [World.setCell, Array.getElem?_modify, this]
theorem Own.setOld {α : Type} {enc : α → List Value} {e sz lo : Nat} {w : World} {v : Value} {l : List α} (h : Own enc e sz lo w v l) (a : Addr) (u : Value) (hlt : a.block < lo) : Own enc e sz lo (w.setCell a u) v l := by
  refine h.kept (grownBy_set w a u) ?_
  cases hv : v.ownBlock with
  | none => exact .inl rfl
  | some k =>
    right; intro e
    have h1 := (World.ownsRow.lt h k hv).1
    injection e with e; omega
set_option maxHeartbeats 1000000 in
theorem toBlock_any (b : Blk) (l : List Actn) (v : Value) (w : World) (h : SL (RF Actn.enc) 4 w v l) (hn : l.length ≤ 1048576) : Calls Try.prog 54 #[.agg #[.int .i64 b.bf, .int .i64 b.ht, .int .i64 b.vw, v, .int .i64 b.rt, .int .i64 b.ef]] w fun e w' => ∃ v', e = .returned (.agg #[.int .i64 b.bf, .int .i64 b.ht, .int .i64 b.vw, v', .int .i64 b.rt, .int .i64 b.ef]) ∧ Up w w' ∧ SL (RF Actn.enc) 4 w' v' l := by
  have hs := h
  obtain ⟨p, cap, rfl, _, _⟩ := h.open
  have Hs := Lib.hid hs; clear h hs
  go_enter Try.func54, Try.ntmps54
  go_wp2_with fail
  refine (toActionS_any l _ _ (Hs.out.up (by repeat (first | exact Ext.refl _ | refine Ext.up ?_ _ | refine Ext.alloc ?_ _ | refine Ext.drew ?_ | refine Ext.setRow ?_ (by first | (dsimp only; omega) | exact LeS.le | exact LeS.add _ | (simp; done) | (simp; omega)) _ | refine Ext.setCell ?_ (by first | (dsimp only; omega) | exact LeS.le | exact LeS.add _ | (simp; done) | (simp; omega)) _))) hn).mono ?_; rintro e w' ⟨v1, rfl, ⟨z1, rfl⟩, ho1⟩
  obtain ⟨p1, cap1, hv1, _, _⟩ := (ho1.sl Actn.enc_length).open
  subst hv1
  have Ho := Lib.hid ho1; clear ho1
  go_wp2_with fail
  refine bodyPost_ret (v := .agg #[.int .i64 b.bf, .int .i64 b.ht, .int .i64 b.vw, .slice p1 l.length cap1, .int .i64 b.rt, .int .i64 b.ef]) (by simp [results, Try.results54, go_sem]) rfl ?_
  refine ⟨_, rfl, .of ?_, Own.sl Actn.enc_length (Own.setOld (Own.setOld (Own.setOld (Own.setOld (Own.setOld (Own.setOld (Own.setOld (Own.setOld (Own.setOld Ho.out _ _ (by first | (simp; done) | (simp; omega))) _ _ (by first | (simp; done) | (simp; omega))) _ _ (by first | (simp; done) | (simp; omega))) _ _ (by first | (simp; done) | (simp; omega))) _ _ (by first | (simp; done) | (simp; omega))) _ _ (by first | (simp; done) | (simp; omega))) _ _ (by first | (simp; done) | (simp; omega))) _ _ (by first | (simp; done) | (simp; omega))) _ _ (by first | (simp; done) | (simp; omega)))⟩
  repeat (first | (with_reducible refine Ext.setCell ?_ (by first | exact LeS.le | (simp; done) | (simp; omega)) _) | (with_reducible refine Ext.up ?_ _) | (with_reducible refine Ext.alloc ?_ _) | (with_reducible exact Ext.refl _))
end Go.Proofs.Ytknohbdhbjppjaa
