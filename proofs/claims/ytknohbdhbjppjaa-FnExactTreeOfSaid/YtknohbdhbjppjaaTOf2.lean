/- Walks: marks on new trees. -/
import Derived.Test.YtknohbdhbjppjaaTOf
import Derived.Test.YtknohbdhbjppjaaPath
import Derived.Test.YtknohbdhbjppjaaRd
namespace Go.Proofs.Ytknohbdhbjppjaa
open Go Go.RowKit Go.Proofs

def mb (m : Int) : TB := ⟨⟨m, m + 1, m + 1 + 1, m + 1 + 1 + 1, m + 1 + 1 + 1 + 1⟩, .slice none 0 0, []⟩
set_option maxRecDepth 100000 in
set_option maxHeartbeats 1000000 in
theorem markBlockS_one (lo : Nat) (b : Blk) (v : Value) (m : Int) (w : World) (h : Own TB.enc 26 6 lo w v [⟨b, .slice none 0 0, []⟩]) (hm0 : 0 ≤ m) (hm1 : m ≤ 900000000) :
    Calls Try.prog 81 #[v, .int .i64 m] w fun e w' => e = .returned (.int .i64 (m + 1 + 1 + 1 + 1 + 1)) ∧ w.grownBy w' v.ownBlock ∧ Own TB.enc 26 6 lo w' v [mb m] := by
  obtain ⟨g, c, rfl⟩ := Own.ne h (by simp)
  have hr : w.ownsRow lo 26 6 (.slice (some ⟨g, 0, none⟩) 1 c) 1 [.int .i64 b.bf, .int .i64 b.ht, .int .i64 b.vw, .slice none 0 0, .int .i64 b.rt, .int .i64 b.ef] := h
  have d0 : w.cell? ⟨g, 0, none⟩ = some (.int .i64 b.bf) := hr.cellAt 0 (by omega)
  have d1 : w.cell? ⟨g, 1, none⟩ = some (.int .i64 b.ht) := hr.cellAt 1 (by omega)
  have d2 : w.cell? ⟨g, 2, none⟩ = some (.int .i64 b.vw) := hr.cellAt 2 (by omega)
  have d3 : w.cell? ⟨g, 3, none⟩ = some (.slice none 0 0) := hr.cellAt 3 (by omega)
  have d4 : w.cell? ⟨g, 4, none⟩ = some (.int .i64 b.rt) := hr.cellAt 4 (by omega)
  have d5 : w.cell? ⟨g, 5, none⟩ = some (.int .i64 b.ef) := hr.cellAt 5 (by omega)
  have f0 := hr.frozenAt 0
  have f1 := hr.frozenAt 1
  have f2 := hr.frozenAt 2
  have f4 := hr.frozenAt 4
  have f5 := hr.frozenAt 5
  have hL : LtS g w := LtS.of_some d0
  have Hr := Lib.hid hr
  clear h hr
  rw [show [(⟨b, .slice none 0 0, []⟩ : TB)].length = 1 from rfl]
  go_enter Try.func81, Try.ntmps81
  go_wp2_with fail
  refine wp_loop_rounds 2 ?_; rw [rounds_succ]
  go_wp2_with fail
  refine (markActionS_any 0 [] (.slice none 0 0) (m + 1 + 1 + 1) _ (Own.nil _ _ _ _ _) (by omega) (by omega) (by simp)).mono ?_; rintro e w' ⟨rfl, hg, _⟩
  obtain ⟨z, rfl⟩ := Up.of (Ext.grown (Ext.refl _) hg (fun k hk => by cases hk))
  rw [show m + 1 + 1 + 1 + 4 * (([] : List Actn).length : Int) = m + 1 + 1 + 1 from by simp]
  go_wp2_with fail
  rw [rounds_succ]
  go_wp2_with fail
  go_ret
  have G1 := World.grownBy.setAll [.int .i64 m, .int .i64 (m + 1), .int .i64 (m + 1 + 1)] 0 (grownBy_refl w (some g))
  have G2 := World.grownBy.setAll [.int .i64 (m + 1 + 1 + 1), .int .i64 (m + 1 + 1 + 1 + 1)] 4 (grownBy_trans G1 (grownBy_ext z.ext))
  have R1 := ownsRow_setAll [.int .i64 m, .int .i64 (m + 1), .int .i64 (m + 1 + 1)] 0 Hr.out
  have R2 := ownsRow_setAll [.int .i64 (m + 1 + 1 + 1), .int .i64 (m + 1 + 1 + 1 + 1)] 4 (ownsRow_up R1 z.ext)
  exact ⟨rfl, G2, R2⟩
set_option maxRecDepth 100000 in
set_option maxHeartbeats 1000000 in
theorem heldBlockS_one (v : Value) (m : Int) (w : World) (h : SL (RF TB.enc) 6 w v [mb m]) (hm0 : 0 ≤ m) (hm1 : m ≤ 900000000) :
    Calls Try.prog 82 #[v, .int .i64 m] w fun e w' => e = .returned (.int .i64 (m + 1 + 1 + 1 + 1 + 1)) ∧ Up w w' := by
  obtain ⟨p, c, rfl, _, hc⟩ := h.open
  obtain ⟨g, off, rfl, hL, hcc⟩ := hc 0 _ rfl
  have d0 : w.cell? ⟨g, off, none⟩ = some (.int .i64 m) := by have := hcc 0 _ rfl; simpa [mb] using this
  have d1 : w.cell? ⟨g, off + 1, none⟩ = some (.int .i64 (m + 1)) := by have := hcc 1 _ rfl; simpa [mb] using this
  have d2 : w.cell? ⟨g, off + 2, none⟩ = some (.int .i64 (m + 1 + 1)) := by have := hcc 2 _ rfl; simpa [mb] using this
  have d3 : w.cell? ⟨g, off + 3, none⟩ = some (.slice none 0 0) := by have := hcc 3 _ rfl; simpa [mb] using this
  have d4 : w.cell? ⟨g, off + 4, none⟩ = some (.int .i64 (m + 1 + 1 + 1)) := by have := hcc 4 _ rfl; simpa [mb] using this
  have d5 : w.cell? ⟨g, off + 5, none⟩ = some (.int .i64 (m + 1 + 1 + 1 + 1)) := by have := hcc 5 _ rfl; simpa [mb] using this
  have k0 := fun w => heldActionS_marks 0 (.slice none 0 0) (m + 1 + 1 + 1) w (SL.nil _ _ _ _ _) (by omega) (by omega) (by simp)
  have e0 : m + 1 + 1 + 1 + 4 * ((0 : Nat) : Int) = m + 1 + 1 + 1 := by omega
  rw [e0] at k0
  clear h hc hcc
  rw [show [mb m].length = 1 from rfl]
  go_enter Try.func82, Try.ntmps82
  go_wp2_with fail
  refine wp_loop_rounds 2 ?_; rw [rounds_succ]
  go_wp2_with (go_at_call 78; refine (k0 _).mono ?_; rintro e w' ⟨rfl, rfl⟩)
  rw [rounds_succ]
  go_wp2_with fail
  go_ret
  exact ⟨rfl, (.of (by repeat (first | (with_reducible exact Ext.refl _) | (with_reducible refine Ext.up ?_ _) | (with_reducible refine Ext.alloc ?_ _) | (with_reducible refine Ext.drew ?_) | (with_reducible refine Ext.setRow ?_ (by first | exact LeS.le | exact LeS.add _ | (simp; done) | (simp; omega)) _) | (with_reducible refine Ext.setCell ?_ (by first | exact LeS.le | exact LeS.add _ | (simp; done) | (simp; omega)) _))))⟩
set_option maxHeartbeats 1000000 in
theorem markTree_one (lo hi : Nat) (w0 w : World) (base : List Ent) (s : List Ent) (v0 v1 v2 : Value) (h : OT 97 26 86 3 lo hi w v0 v1 v2 base [fb s] [-1]) (hE : Ext w0 w) (hlo : w0.heap.size ≤ lo) (hb : base.length ≤ 1048576) (hhi : hi ≤ w.heap.size) :
    Calls Try.prog 26 #[.agg #[v0, v1, v2], .int .i64 1] w fun e w' => e = .returned (.int .i64 (1 + 2 * base.length + 1 + 1 + 1 + 1 + 1 + 1)) ∧ Ext w0 w' ∧ Keep hi w w' ∧ SL (RF Ent.enc) 2 w' v0 (marksEnt 1 base.length) ∧ SL (RF TB.enc) 6 w' v1 [mb (1 + 2 * base.length)] ∧ SL (RF encI) 1 w' v2 (marksI (1 + 2 * base.length + 1 + 1 + 1 + 1 + 1) 1) := by
  obtain ⟨s1, s2, h1, h2, h3, o0, u0, o1, u1, ux, o2, u2⟩ := h
  obtain ⟨p0, c0, rfl, _, _⟩ := (o0.sl Ent.enc_length).openc
  obtain ⟨p1, c1, rfl⟩ := Own.ne o1.1 (by simp)
  obtain ⟨p2, c2, rfl⟩ := Own.ne o2 (by simp)
  have a10 := Lib.hid (o1.1.apartU u0 (Nat.le_refl _))
  have a20 := Lib.hid (o2.apartU u0 h2)
  have a21 := Lib.hid (o2.apartU u1 (Nat.le_refl _))
  have O0 := Lib.hid o0; have O1 := Lib.hid o1.1; have O2 := Lib.hid o2; have HE := Lib.hid hE
  have U0 := Lib.hid u0; have U1 := Lib.hid u1; have U2 := Lib.hid u2
  clear o0 o1 o2 u0 u1 u2 ux hE
  rw [show [fb s].length = 1 from rfl, show ([-1] : List Int).length = 1 from rfl]
  go_enter Try.func26, Try.ntmps26
  go_wp2_with fail
  refine (markEntryS_any lo base _ 1 _ (O0.out.up (by repeat (first | exact Ext.refl _ | refine Ext.up ?_ _ | refine Ext.alloc ?_ _ | refine Ext.drew ?_ | refine Ext.setRow ?_ (by first | (dsimp only; omega) | exact LeS.le | exact LeS.add _ | (simp; done) | (simp; omega)) _ | refine Ext.setCell ?_ (by first | (dsimp only; omega) | exact LeS.le | exact LeS.add _ | (simp; done) | (simp; omega)) _))) (by omega) (by omega) (by omega)).mono ?_; rintro e w1 ⟨rfl, hg1, om0⟩
  have E1 := Lib.hid ((HE.out.trans ((Ext.refl w).alloc _)).grown hg1 fun j hj => Nat.le_trans hlo (World.ownsRow.lt O0.out j hj).1)
  have K1 := Lib.hid (Keep.trans (⟨by simp, fun k _ hk => by rw [((Ext.refl w).alloc _).block hk]⟩ : Keep hi w _) (Keep.grown hg1 (U0.out.le (Nat.le_trans h2 h3))))
  have B1 := Lib.hid (Own.keep (O1.out.up ((Ext.refl _).alloc _)) hg1 a10.out)
  have P1 := Lib.hid (Own.keep (O2.out.up ((Ext.refl _).alloc _)) hg1 a20.out)
  have M0 := Lib.hid om0
  have r1 := ((hg1.block w.heap.size (by simp) (by
    intro e
    have := (World.ownsRow.lt O0.out _ e.symm).2
    omega)).trans (heap_alloc_new w _))
  have d1 : w1.cell? ⟨w.heap.size, 1, none⟩ = some (.slice (some ⟨p1, 0, none⟩) 1 c1) := cell_of_row w1 w.heap.size 1 _ _ _ r1
  have L1 : LtS w.heap.size w1 := LtS.of_some d1
  have R1 := Lib.hid r1
  clear hg1 r1 om0
  go_wp2_with fail
  refine (markBlockS_one s1 (firstB s) _ (1 + 2 * base.length) w1 B1.out (by omega) (by omega)).mono ?_; rintro e w2 ⟨rfl, hg2, om1⟩
  have hlt1 := (World.ownsRow.lt O1.out p1 rfl).2
  have r2 := (hg2.block w.heap.size L1.lt (by intro e; have : w.heap.size = p1 := by simpa [Value.ownBlock] using e
                                              omega)).trans R1.out
  have d2 : w2.cell? ⟨w.heap.size, 2, none⟩ = some (.slice (some ⟨p2, 0, none⟩) 1 c2) := cell_of_row w2 w.heap.size 2 _ _ _ r2
  have L2 : LtS w.heap.size w2 := LtS.of_some d2
  have E2 := Lib.hid (E1.out.grown hg2 fun j hj => Nat.le_trans (Nat.le_trans hlo h1) (World.ownsRow.lt B1.out j hj).1)
  have K2 := Lib.hid (K1.out.trans (Keep.grown hg2 (U1.out.le h3)))
  have P2 := Lib.hid (Own.keep P1.out hg2 a21.out)
  have M02 := Lib.hid (Own.keep M0.out hg2 a10.out.symm)
  have M1 := Lib.hid om1
  clear r2 hg2 om1
  go_wp2_with fail
  refine (markIntS_any s2 [-1] _ (1 + 2 * base.length + 1 + 1 + 1 + 1 + 1) _ P2.out (by omega) (by omega) (by simp)).mono ?_; rintro e w3 ⟨rfl, hg3, om2⟩
  have E3 := Lib.hid (E2.out.grown hg3 fun j hj => Nat.le_trans (Nat.le_trans hlo (Nat.le_trans h1 h2)) (World.ownsRow.lt P2.out j hj).1)
  have K3 := Lib.hid (K2.out.trans (Keep.grown hg3 U2.out))
  have M03 := Lib.hid (Own.keep M02.out hg3 a20.out.symm)
  have M13 := Lib.hid (Own.keep M1.out hg3 a21.out.symm)
  have M2 := Lib.hid om2
  clear hg3 om2
  rw [show (([-1] : List Int).length : Int) = 1 from rfl]
  go_wp2_with fail
  go_ret
  exact ⟨rfl, E3.out, K3.out, M03.out.sl Ent.enc_length, M13.out.sl TB.enc_length, M2.out.sl encI_length⟩
set_option maxHeartbeats 1000000 in
theorem heldTree_one (n : Nat) (v0 v1 v2 : Value) (w : World) (hn : n ≤ 1048576) (h0 : SL (RF Ent.enc) 2 w v0 (marksEnt 1 n)) (h1 : SL (RF TB.enc) 6 w v1 [mb (1 + 2 * n)]) (h2 : SL (RF encI) 1 w v2 (marksI (1 + 2 * n + 1 + 1 + 1 + 1 + 1) 1)) :
    Calls Try.prog 27 #[.agg #[v0, v1, v2], .int .i64 1] w fun e w' => e = .returned (.int .i64 (1 + 2 * n + 1 + 1 + 1 + 1 + 1 + 1)) ∧ Up w w' := by
  have H0 := Lib.hid h0; have H1 := Lib.hid h1; have H2 := Lib.hid h2
  obtain ⟨p0, c0, rfl, _, _⟩ := h0.openc
  obtain ⟨p1, c1, rfl, _, _⟩ := h1.openc
  obtain ⟨p2, c2, rfl, _, _⟩ := h2.openc
  clear h0 h1 h2
  have k2 := fun w h => heldIntS_marks 1 (.slice p2 (marksI (1 + 2 * n + 1 + 1 + 1 + 1 + 1) 1).length c2) (1 + 2 * n + 1 + 1 + 1 + 1 + 1) w h (by omega) (by omega) (by omega)
  go_enter Try.func27, Try.ntmps27
  go_wp2_with fail
  refine (heldEntryS_marks n _ 1 _ (H0.out.up (by repeat (first | (with_reducible exact Ext.refl _) | (with_reducible refine Ext.up ?_ _) | (with_reducible refine Ext.alloc ?_ _) | (with_reducible refine Ext.drew ?_) | (with_reducible refine Ext.setRow ?_ (by first | exact LeS.le | exact LeS.add _ | (simp; done) | (simp; omega)) _) | (with_reducible refine Ext.setCell ?_ (by first | exact LeS.le | exact LeS.add _ | (simp; done) | (simp; omega)) _)))) (by omega) (by omega) (by omega)).mono ?_; rintro e w' ⟨rfl, rfl⟩
  go_wp2_with fail
  refine (heldBlockS_one _ (1 + 2 * n) _ (H1.out.up (by repeat (first | (with_reducible exact Ext.refl _) | (with_reducible refine Ext.up ?_ _) | (with_reducible refine Ext.alloc ?_ _) | (with_reducible refine Ext.drew ?_) | (with_reducible refine Ext.setRow ?_ (by first | exact LeS.le | exact LeS.add _ | (simp; done) | (simp; omega)) _) | (with_reducible refine Ext.setCell ?_ (by first | exact LeS.le | exact LeS.add _ | (simp; done) | (simp; omega)) _)))) (by omega) (by omega)).mono ?_; rintro e w' ⟨rfl, ⟨z1, rfl⟩⟩
  go_wp2_with fail
  refine (k2 _ (H2.out.up (by repeat (first | (with_reducible exact Ext.refl _) | (with_reducible refine Ext.up ?_ _) | (with_reducible refine Ext.alloc ?_ _) | (with_reducible refine Ext.drew ?_) | (with_reducible refine Ext.setRow ?_ (by first | exact LeS.le | exact LeS.add _ | (simp; done) | (simp; omega)) _) | (with_reducible refine Ext.setCell ?_ (by first | exact LeS.le | exact LeS.add _ | (simp; done) | (simp; omega)) _))))).mono ?_; rintro e w' ⟨rfl, rfl⟩
  go_wp2_with fail
  go_ret
  exact ⟨rfl, (.of (by repeat (first | (with_reducible exact Ext.refl _) | (with_reducible refine Ext.up ?_ _) | (with_reducible refine Ext.alloc ?_ _) | (with_reducible refine Ext.drew ?_) | (with_reducible refine Ext.setRow ?_ (by first | exact LeS.le | exact LeS.add _ | (simp; done) | (simp; omega)) _) | (with_reducible refine Ext.setCell ?_ (by first | exact LeS.le | exact LeS.add _ | (simp; done) | (simp; omega)) _))))⟩
end Go.Proofs.Ytknohbdhbjppjaa
