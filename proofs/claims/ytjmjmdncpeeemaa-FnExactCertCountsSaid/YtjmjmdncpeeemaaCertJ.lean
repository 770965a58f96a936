/- Walk: FnExactJoinCerts. -/
import Derived.Test.YtjmjmdncpeeemaaCert
import Derived.Deep.DeepCutAuto
namespace Go.Proofs.Ytjmjmdncpeeemaa
open Go Go.RowKit Go.Proofs

set_option maxHeartbeats 2000000 in
theorem FnExactJoinCerts_any (a b : Crt) (w : World) : Calls Try.prog 4 #[.agg #[.int .i64 a.s, .int .i64 a.v, .int .i64 a.g], .agg #[.int .i64 b.s, .int .i64 b.v, .int .i64 b.g]] w fun e w' => e = .returned (.bool true) ∧ Up w w' := by
  go_enter Try.func4, Try.ntmps4
  go_upto_region 1 with fail
  go_cut [5, 6] (fun s5 s6 wr => ∃ (g : Nat), s5 = .pointer (some ⟨g, 0, none⟩) ∧ s6 = .bool (a.joins b) ∧ Up ((w.alloc (.cells #[.int .i64 a.s, .int .i64 a.v, .int .i64 a.g] 23)).alloc (.cells #[.int .i64 b.s, .int .i64 b.v, .int .i64 b.g] 23)) wr ∧ LtS g wr ∧
    wr.cell? ⟨g, 0, none⟩ = some (.int .i64 (joinC a b).s) ∧ wr.cell? ⟨g, 1, none⟩ = some (.int .i64 (joinC a b).v) ∧ wr.cell? ⟨g, 2, none⟩ = some (.int .i64 (joinC a b).g))
  case first =>
    (refine wp_named ?_; intro W0 hW0; have hI := LtS.via hW0; go_region_held3 (fun w' => (∀ n i, ∀ [LtS n W0], w'.cell? ⟨n, i, none⟩ = W0.cell? ⟨n, i, none⟩) ∧ Ext W0 w') (((try subst hW0); refine S_of_ext ?_; (repeat (first | exact Ext.refl _ | refine Ext.up ?_ _ | refine Ext.alloc ?_ _ | refine Ext.drew ?_ | refine Ext.setCell ?_ (by first | (dsimp only; omega) | exact LeS.le | exact LeS.add _ | (simp; done) | (simp; omega)) _)); done)) (first | (go_at_call 16; refine (toCert_any _ _).mono ?_; rintro e w' ⟨rfl, z, rfl⟩) | (go_at_call 18; refine (sJoinCerts_any _ _ _).mono ?_; rintro e w' ⟨rfl, z, rfl⟩)))
    all_goals go_wp2_with fail
    all_goals go_meet
    all_goals exact ⟨_, rfl, rfl, .of (by subst hW0; repeat (first | exact Ext.refl _ | refine Ext.up ?_ _ | refine Ext.alloc ?_ _ | refine Ext.drew ?_ | refine Ext.setCell ?_ (by first | (dsimp only; omega) | exact LeS.le | exact LeS.add _ | (simp; done) | (simp; omega)) _)), by infer_instance, by go_simp, by go_simp, by go_simp⟩
  case rest =>
    obtain ⟨g, rfl, rfl, ⟨z, rfl⟩, hL, g0, g1, g2⟩ := hcut
    go_upto_region 2 with fail
    go_cut [7, 8] (fun s7 s8 wr => ∃ (h : Nat), s7 = .pointer (some ⟨h, 0, none⟩) ∧ s8 = .bool (a.joins b) ∧ Up z.val wr ∧ LtS h wr ∧
      wr.cell? ⟨h, 0, none⟩ = some (.int .i64 (joinC a b).s) ∧ wr.cell? ⟨h, 1, none⟩ = some (.int .i64 (joinC a b).v) ∧ wr.cell? ⟨h, 2, none⟩ = some (.int .i64 (joinC a b).g))
    case first =>
      (refine wp_named ?_; intro W0 hW0; have hI := LtS.via hW0; go_region_held3 (fun w' => (∀ n i, ∀ [LtS n W0], w'.cell? ⟨n, i, none⟩ = W0.cell? ⟨n, i, none⟩) ∧ Ext W0 w') (((try subst hW0); refine S_of_ext ?_; (repeat (first | exact Ext.refl _ | refine Ext.up ?_ _ | refine Ext.alloc ?_ _ | refine Ext.drew ?_ | refine Ext.setCell ?_ (by first | (dsimp only; omega) | exact LeS.le | exact LeS.add _ | (simp; done) | (simp; omega)) _)); done)) (first | (go_at_call 16; refine (toCert_any _ _).mono ?_; rintro e w' ⟨rfl, z, rfl⟩) | (go_at_call 19; refine (iJoinCerts_any _ _ _).mono ?_; rintro e w' ⟨rfl, z, rfl⟩)))
      all_goals go_wp2_with fail
      all_goals go_meet
      all_goals exact ⟨_, rfl, rfl, .of (by subst hW0; repeat (first | exact Ext.refl _ | refine Ext.up ?_ _ | refine Ext.alloc ?_ _ | refine Ext.drew ?_ | refine Ext.setCell ?_ (by first | (dsimp only; omega) | exact LeS.le | exact LeS.add _ | (simp; done) | (simp; omega)) _)), by infer_instance, by go_simp, by go_simp, by go_simp⟩
    case rest =>
      obtain ⟨h, rfl, rfl, ⟨z', rfl⟩, hL', k0, k1, k2⟩ := hcut
      go_wp2_with (go_at_call 20; refine (eqCert_same (joinC a b) _).mono ?_; rintro e w' ⟨rfl, z2, rfl⟩)
      go_ret
      exact ⟨rfl, (.of (by repeat (first | exact Ext.refl _ | refine Ext.up ?_ _ | refine Ext.alloc ?_ _ | refine Ext.drew ?_ | refine Ext.setCell ?_ (by first | (dsimp only; omega) | exact LeS.le | exact LeS.add _ | (simp; done) | (simp; omega)) _)))⟩
end Go.Proofs.Ytjmjmdncpeeemaa
