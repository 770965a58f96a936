/- The laws of trees: walks: blocks that are found, ways. -/
import Derived.Test.YtknohbdhbjppjaaRev
import Derived.Test.YtknohbdhbjppjaaTree2
namespace Go.Proofs.Ytknohbdhbjppjaa
open Go Go.RowKit Go.Proofs

set_option maxHeartbeats 2000000 in
theorem FnExactFindBlock_any (t : Tree) (v0 v1 v2 : Value) (sum : Int) (w : World) (h : ST w v0 v1 v2 t) :
    Calls Try.prog 10 #[.agg #[v0, v1, v2], .int .i64 sum] w fun e w' => e = .returned (.bool true) ∧ Up w w' := by
  have H := Lib.hid h
  obtain ⟨h0, h1, h2⟩ := h
  obtain ⟨p0, c0, rfl, _, _⟩ := h0.openc
  obtain ⟨p1, c1, rfl, _, _⟩ := h1.openc
  obtain ⟨p2, c2, rfl, _, _⟩ := h2.openc
  clear h0 h1 h2
  go_enter Try.func10, Try.ntmps10
  go_wp2_with fail
  refine (szBlockTree_any t _ _ _ _ _ (H.out.up (by repeat (first | (with_reducible exact Ext.refl _) | (with_reducible refine Ext.up ?_ _) | (with_reducible refine Ext.alloc ?_ _) | (with_reducible refine Ext.drew ?_) | (with_reducible refine Ext.setRow ?_ (by first | exact LeS.le | exact LeS.add _ | (simp; done) | (simp; omega)) _) | (with_reducible refine Ext.setCell ?_ (by first | exact LeS.le | exact LeS.add _ | (simp; done) | (simp; omega)) _)))) (by omega) (by omega)).mono ?_; rintro e w' ⟨m, rfl, hm, ⟨z0, rfl⟩⟩
  rcases hm with hm | ⟨hm0, hm⟩
  · go_wp2_with fail
    go_ret
    exact ⟨rfl, (.of (by repeat (first | (with_reducible exact Ext.refl _) | (with_reducible refine Ext.up ?_ _) | (with_reducible refine Ext.alloc ?_ _) | (with_reducible refine Ext.drew ?_) | (with_reducible refine Ext.setRow ?_ (by first | exact LeS.le | exact LeS.add _ | (simp; done) | (simp; omega)) _) | (with_reducible refine Ext.setCell ?_ (by first | exact LeS.le | exact LeS.add _ | (simp; done) | (simp; omega)) _))))⟩
  have n0 : t.base.length ≤ 1048576 := by omega
  have n1 : t.bs.length ≤ 1048576 := by omega
  have n2 : totA t.bs ≤ 1048576 := by omega
  have n3 : t.pr.length ≤ 1048576 := by omega
  clear hm
  go_wp2_with fail
  refine (toBlockTree_any t _ _ _ _ (H.out.up (by repeat (first | (with_reducible exact Ext.refl _) | (with_reducible refine Ext.up ?_ _) | (with_reducible refine Ext.alloc ?_ _) | (with_reducible refine Ext.drew ?_) | (with_reducible refine Ext.setRow ?_ (by first | exact LeS.le | exact LeS.add _ | (simp; done) | (simp; omega)) _) | (with_reducible refine Ext.setCell ?_ (by first | exact LeS.le | exact LeS.add _ | (simp; done) | (simp; omega)) _)))) n0 n1 n2 n3).mono ?_; rintro e w' ⟨a0, a1, a2, bs1, rfl, ⟨z1, rfl⟩, hb1, o1⟩
  have S1 := Lib.hid (o1.st' hb1); clear o1 hb1
  go_wp2_with fail
  refine (sFindBlock_any t _ _ _ sum _ (S1.out.up (by repeat (first | (with_reducible exact Ext.refl _) | (with_reducible refine Ext.up ?_ _) | (with_reducible refine Ext.alloc ?_ _) | (with_reducible refine Ext.drew ?_) | (with_reducible refine Ext.setRow ?_ (by first | exact LeS.le | exact LeS.add _ | (simp; done) | (simp; omega)) _) | (with_reducible refine Ext.setCell ?_ (by first | exact LeS.le | exact LeS.add _ | (simp; done) | (simp; omega)) _))))).mono ?_; rintro e w' ⟨rfl, ⟨z2, rfl⟩⟩
  go_wp2_with fail
  refine (toBlockTree_any t _ _ _ _ (H.out.up (by repeat (first | (with_reducible exact Ext.refl _) | (with_reducible refine Ext.up ?_ _) | (with_reducible refine Ext.alloc ?_ _) | (with_reducible refine Ext.drew ?_) | (with_reducible refine Ext.setRow ?_ (by first | exact LeS.le | exact LeS.add _ | (simp; done) | (simp; omega)) _) | (with_reducible refine Ext.setCell ?_ (by first | exact LeS.le | exact LeS.add _ | (simp; done) | (simp; omega)) _)))) n0 n1 n2 n3).mono ?_; rintro e w' ⟨b0, b1, b2, bs2, rfl, ⟨z3, rfl⟩, hb2, o2⟩
  obtain ⟨q0, d0, rfl, _, _⟩ := (o2.st' hb2).base.openc
  obtain ⟨q1, d1, rfl, _, _⟩ := (o2.st' hb2).bs.openc
  obtain ⟨q2, d2, rfl, _, _⟩ := (o2.st' hb2).pr.openc
  have S2 := Lib.hid (o2.st' hb2); clear o2 hb2
  go_wp2_with fail
  refine (iFindBlock_any t _ _ _ sum _ (S2.out.up (by repeat (first | (with_reducible exact Ext.refl _) | (with_reducible refine Ext.up ?_ _) | (with_reducible refine Ext.alloc ?_ _) | (with_reducible refine Ext.drew ?_) | (with_reducible refine Ext.setRow ?_ (by first | exact LeS.le | exact LeS.add _ | (simp; done) | (simp; omega)) _) | (with_reducible refine Ext.setCell ?_ (by first | exact LeS.le | exact LeS.add _ | (simp; done) | (simp; omega)) _))))).mono ?_; rintro e w' ⟨rfl, ⟨z4, rfl⟩⟩
  go_wp2_with fail
  (refine wp_named ?_; intro W0 hW0; have hI := LtS.via hW0; go_region_held3 (fun w' => (∀ n i, ∀ [LtS n W0], w'.cell? ⟨n, i, none⟩ = W0.cell? ⟨n, i, none⟩) ∧ Ext W0 w') (((try subst hW0); refine S_of_ext ?_; (repeat (first | exact Ext.refl _ | refine Ext.up ?_ _ | refine Ext.alloc ?_ _ | refine Ext.drew ?_ | refine Ext.setRow ?_ (by first | (dsimp only; omega) | exact LeS.le | exact LeS.add _ | (simp; done) | (simp; omega)) _ | refine Ext.setCell ?_ (by first | (dsimp only; omega) | exact LeS.le | exact LeS.add _ | (simp; done) | (simp; omega)) _)); done)) (first | (go_at_call 50; refine (toBlockTree_any t _ _ _ _ (H.out.up (by (try subst hW0); repeat (first | exact Ext.refl _ | refine Ext.up ?_ _ | refine Ext.alloc ?_ _ | refine Ext.drew ?_ | refine Ext.setRow ?_ (by first | (dsimp only; omega) | exact LeS.le | exact LeS.add _ | (simp; done) | (simp; omega)) _ | refine Ext.setCell ?_ (by first | (dsimp only; omega) | exact LeS.le | exact LeS.add _ | (simp; done) | (simp; omega)) _))) n0 n1 n2 n3).mono ?_; rintro e w' ⟨g0, g1, g2, bs3, rfl, ⟨z5, rfl⟩, hb3, o3⟩; have S3 := (o3.st' hb3); clear o3 hb3) | (go_at_call 25; refine (eqBlockTree_same t _ _ _ _ _ _ _ (S2.out.up (by (try subst hW0); repeat (first | exact Ext.refl _ | refine Ext.up ?_ _ | refine Ext.alloc ?_ _ | refine Ext.drew ?_ | refine Ext.setRow ?_ (by first | (dsimp only; omega) | exact LeS.le | exact LeS.add _ | (simp; done) | (simp; omega)) _ | refine Ext.setCell ?_ (by first | (dsimp only; omega) | exact LeS.le | exact LeS.add _ | (simp; done) | (simp; omega)) _))) S3).mono ?_; rintro e w' ⟨rfl, ⟨z6, rfl⟩⟩)))
  go_wp2_with fail
  go_ret
  exact ⟨rfl, .of (by subst hW0; repeat (first | exact Ext.refl _ | refine Ext.up ?_ _ | refine Ext.alloc ?_ _ | refine Ext.drew ?_ | refine Ext.setRow ?_ (by first | (dsimp only; omega) | exact LeS.le | exact LeS.add _ | (simp; done) | (simp; omega)) _ | refine Ext.setCell ?_ (by first | (dsimp only; omega) | exact LeS.le | exact LeS.add _ | (simp; done) | (simp; omega)) _))⟩
set_option maxHeartbeats 2000000 in
theorem FnExactIsBefore_any (t : Tree) (v0 v1 v2 : Value) (a n : Int) (w : World) (h : ST w v0 v1 v2 t) :
    Calls Try.prog 11 #[.agg #[v0, v1, v2], .int .i64 a, .int .i64 n] w fun e w' => e = .returned (.bool true) ∧ Up w w' := by
  have H := Lib.hid h
  obtain ⟨h0, h1, h2⟩ := h
  obtain ⟨p0, c0, rfl, _, _⟩ := h0.openc
  obtain ⟨p1, c1, rfl, _, _⟩ := h1.openc
  obtain ⟨p2, c2, rfl, _, _⟩ := h2.openc
  clear h0 h1 h2
  go_enter Try.func11, Try.ntmps11
  go_wp2_with fail
  refine (szBlockTree_any t _ _ _ _ _ (H.out.up (by repeat (first | (with_reducible exact Ext.refl _) | (with_reducible refine Ext.up ?_ _) | (with_reducible refine Ext.alloc ?_ _) | (with_reducible refine Ext.drew ?_) | (with_reducible refine Ext.setRow ?_ (by first | exact LeS.le | exact LeS.add _ | (simp; done) | (simp; omega)) _) | (with_reducible refine Ext.setCell ?_ (by first | exact LeS.le | exact LeS.add _ | (simp; done) | (simp; omega)) _)))) (by omega) (by omega)).mono ?_; rintro e w' ⟨m, rfl, hm, ⟨z0, rfl⟩⟩
  rcases hm with hm | ⟨hm0, hm⟩
  · go_wp2_with fail
    go_ret
    exact ⟨rfl, (.of (by repeat (first | (with_reducible exact Ext.refl _) | (with_reducible refine Ext.up ?_ _) | (with_reducible refine Ext.alloc ?_ _) | (with_reducible refine Ext.drew ?_) | (with_reducible refine Ext.setRow ?_ (by first | exact LeS.le | exact LeS.add _ | (simp; done) | (simp; omega)) _) | (with_reducible refine Ext.setCell ?_ (by first | exact LeS.le | exact LeS.add _ | (simp; done) | (simp; omega)) _))))⟩
  have n0 : t.base.length ≤ 1048576 := by omega
  have n1 : t.bs.length ≤ 1048576 := by omega
  have n2 : totA t.bs ≤ 1048576 := by omega
  have n3 : t.pr.length ≤ 1048576 := by omega
  clear hm
  go_wp2_with fail
  refine (toBlockTree_any t _ _ _ _ (H.out.up (by repeat (first | (with_reducible exact Ext.refl _) | (with_reducible refine Ext.up ?_ _) | (with_reducible refine Ext.alloc ?_ _) | (with_reducible refine Ext.drew ?_) | (with_reducible refine Ext.setRow ?_ (by first | exact LeS.le | exact LeS.add _ | (simp; done) | (simp; omega)) _) | (with_reducible refine Ext.setCell ?_ (by first | exact LeS.le | exact LeS.add _ | (simp; done) | (simp; omega)) _)))) n0 n1 n2 n3).mono ?_; rintro e w' ⟨a0, a1, a2, bs1, rfl, ⟨z1, rfl⟩, hb1, o1⟩
  have S1 := Lib.hid (o1.st' hb1); clear o1 hb1
  go_wp2_with fail
  refine (sIsBefore_any t _ _ _ a n _ (S1.out.up (by repeat (first | (with_reducible exact Ext.refl _) | (with_reducible refine Ext.up ?_ _) | (with_reducible refine Ext.alloc ?_ _) | (with_reducible refine Ext.drew ?_) | (with_reducible refine Ext.setRow ?_ (by first | exact LeS.le | exact LeS.add _ | (simp; done) | (simp; omega)) _) | (with_reducible refine Ext.setCell ?_ (by first | exact LeS.le | exact LeS.add _ | (simp; done) | (simp; omega)) _))))).mono ?_; rintro e w' ⟨rfl, ⟨z2, rfl⟩⟩
  go_wp2_with fail
  refine (toBlockTree_any t _ _ _ _ (H.out.up (by repeat (first | (with_reducible exact Ext.refl _) | (with_reducible refine Ext.up ?_ _) | (with_reducible refine Ext.alloc ?_ _) | (with_reducible refine Ext.drew ?_) | (with_reducible refine Ext.setRow ?_ (by first | exact LeS.le | exact LeS.add _ | (simp; done) | (simp; omega)) _) | (with_reducible refine Ext.setCell ?_ (by first | exact LeS.le | exact LeS.add _ | (simp; done) | (simp; omega)) _)))) n0 n1 n2 n3).mono ?_; rintro e w' ⟨b0, b1, b2, bs2, rfl, ⟨z3, rfl⟩, hb2, o2⟩
  obtain ⟨q0, d0, rfl, _, _⟩ := (o2.st' hb2).base.openc
  obtain ⟨q1, d1, rfl, _, _⟩ := (o2.st' hb2).bs.openc
  obtain ⟨q2, d2, rfl, _, _⟩ := (o2.st' hb2).pr.openc
  have S2 := Lib.hid (o2.st' hb2); clear o2 hb2
  go_wp2_with fail
  refine (iIsBefore_any t _ _ _ a n _ (S2.out.up (by repeat (first | (with_reducible exact Ext.refl _) | (with_reducible refine Ext.up ?_ _) | (with_reducible refine Ext.alloc ?_ _) | (with_reducible refine Ext.drew ?_) | (with_reducible refine Ext.setRow ?_ (by first | exact LeS.le | exact LeS.add _ | (simp; done) | (simp; omega)) _) | (with_reducible refine Ext.setCell ?_ (by first | exact LeS.le | exact LeS.add _ | (simp; done) | (simp; omega)) _))))).mono ?_; rintro e w' ⟨rfl, ⟨z4, rfl⟩⟩
  go_wp2_with fail
  (refine wp_named ?_; intro W0 hW0; have hI := LtS.via hW0; go_region_held3 (fun w' => (∀ n i, ∀ [LtS n W0], w'.cell? ⟨n, i, none⟩ = W0.cell? ⟨n, i, none⟩) ∧ Ext W0 w') (((try subst hW0); refine S_of_ext ?_; (repeat (first | exact Ext.refl _ | refine Ext.up ?_ _ | refine Ext.alloc ?_ _ | refine Ext.drew ?_ | refine Ext.setRow ?_ (by first | (dsimp only; omega) | exact LeS.le | exact LeS.add _ | (simp; done) | (simp; omega)) _ | refine Ext.setCell ?_ (by first | (dsimp only; omega) | exact LeS.le | exact LeS.add _ | (simp; done) | (simp; omega)) _)); done)) (first | (go_at_call 50; refine (toBlockTree_any t _ _ _ _ (H.out.up (by (try subst hW0); repeat (first | exact Ext.refl _ | refine Ext.up ?_ _ | refine Ext.alloc ?_ _ | refine Ext.drew ?_ | refine Ext.setRow ?_ (by first | (dsimp only; omega) | exact LeS.le | exact LeS.add _ | (simp; done) | (simp; omega)) _ | refine Ext.setCell ?_ (by first | (dsimp only; omega) | exact LeS.le | exact LeS.add _ | (simp; done) | (simp; omega)) _))) n0 n1 n2 n3).mono ?_; rintro e w' ⟨g0, g1, g2, bs3, rfl, ⟨z5, rfl⟩, hb3, o3⟩; have S3 := (o3.st' hb3); clear o3 hb3) | (go_at_call 25; refine (eqBlockTree_same t _ _ _ _ _ _ _ (S2.out.up (by (try subst hW0); repeat (first | exact Ext.refl _ | refine Ext.up ?_ _ | refine Ext.alloc ?_ _ | refine Ext.drew ?_ | refine Ext.setRow ?_ (by first | (dsimp only; omega) | exact LeS.le | exact LeS.add _ | (simp; done) | (simp; omega)) _ | refine Ext.setCell ?_ (by first | (dsimp only; omega) | exact LeS.le | exact LeS.add _ | (simp; done) | (simp; omega)) _))) S3).mono ?_; rintro e w' ⟨rfl, ⟨z6, rfl⟩⟩)))
  go_wp2_with fail
  go_ret
  exact ⟨rfl, .of (by subst hW0; repeat (first | exact Ext.refl _ | refine Ext.up ?_ _ | refine Ext.alloc ?_ _ | refine Ext.drew ?_ | refine Ext.setRow ?_ (by first | (dsimp only; omega) | exact LeS.le | exact LeS.add _ | (simp; done) | (simp; omega)) _ | refine Ext.setCell ?_ (by first | (dsimp only; omega) | exact LeS.le | exact LeS.add _ | (simp; done) | (simp; omega)) _))⟩
end Go.Proofs.Ytknohbdhbjppjaa
