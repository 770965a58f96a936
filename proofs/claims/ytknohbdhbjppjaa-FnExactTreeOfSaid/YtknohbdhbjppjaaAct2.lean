/- Walks: actions: the keys that they read and write; conflicts. -/
import Derived.Test.YtknohbdhbjppjaaAct
import Derived.Deep.DeepCutAuto
namespace Go.Proofs.Ytknohbdhbjppjaa
open Go Go.RowKit Go.Proofs

set_option maxHeartbeats 2000000 in
theorem writes_any (x : Actn) (w : World) : Calls Try.prog 165 #[.agg #[.int .i64 x.kind, .int .i64 x.src, .int .i64 x.dst, .int .i64 x.amt]] w fun e w' => ∃ v, e = .returned v ∧ Up w w' ∧ Own encI 3 1 w.heap.size w' v x.wk := by
  obtain ⟨kind, src, dst, amt⟩ := x
  dsimp only
  rcases kinds kind with hk | hk | hk | hk | hk | hk | ⟨k1, k2, k3, k4, k5, k6⟩
  rotate_right
  have e1 : (kind == 1) = false := by simpa using k1
  have e2 : (kind == 2) = false := by simpa using k2
  have e3 : (kind == 3) = false := by simpa using k3
  have e4 : (kind == 4) = false := by simpa using k4
  have e5 : (kind == 5) = false := by simpa using k5
  have e6 : (kind == 6) = false := by simpa using k6
  all_goals try subst hk
  all_goals rcases eq_cases src dst with ⟨hs, hs'⟩ | ⟨hs, hs'⟩
  all_goals
    try (have HS : Hid (src = dst) := Lib.hid hs; clear hs)
    go_enter Try.func165, Try.ntmps165
    go_wp2_with (fail)
    all_goals go_ret
    all_goals refine ⟨_, rfl, (.of (by repeat (first | exact Ext.refl _ | refine Ext.up ?_ _ | refine Ext.alloc ?_ _ | refine Ext.drew ?_ | refine Ext.setRow ?_ (by first | (dsimp only; omega) | exact LeS.le | exact LeS.add _ | (simp; done) | (simp; omega)) _ | refine Ext.setCell ?_ (by first | (dsimp only; omega) | exact LeS.le | exact LeS.add _ | (simp; done) | (simp; omega)) _))), ?_⟩
    all_goals try have hs := HS.out
    all_goals simp [Actn.wk, *]
    all_goals first | exact Own.nil _ _ _ _ _ | (refine Own.lit (by simp) (by first | exact LeS.le | (simp; done)) rfl ?_ encI_length (by simp); first | rfl | (simp [encI]; omega))
set_option maxHeartbeats 2000000 in
theorem sReads_any (x : Actn) (w : World) : Calls Try.prog 130 #[.agg #[.int .i64 x.kind, .int .i64 x.src, .int .i64 x.dst, .int .i64 x.amt]] w fun e w' => ∃ v, e = .returned v ∧ Up w w' ∧ Own encI 3 1 w.heap.size w' v (if x.ok = true then x.rk else []) := by
  rcases hv : x.ok with _ | _
  · rw [if_neg (by decide)]
    go_enter Try.func130, Try.ntmps130
    go_wp2_with ((go_at_call 68; refine (sActionValid_any ⟨_, _, _, _⟩ _).mono ?_; rintro e w' ⟨rfl, z, rfl⟩))
    go_ret
    refine ⟨_, rfl, (.of (by repeat (first | exact Ext.refl _ | refine Ext.up ?_ _ | refine Ext.alloc ?_ _ | refine Ext.drew ?_ | refine Ext.setRow ?_ (by first | (dsimp only; omega) | exact LeS.le | exact LeS.add _ | (simp; done) | (simp; omega)) _ | refine Ext.setCell ?_ (by first | (dsimp only; omega) | exact LeS.le | exact LeS.add _ | (simp; done) | (simp; omega)) _))), ?_⟩
    refine Own.lit (by simp) ?_ rfl rfl encI_length (by simp)
    exact LeS.le
  rw [if_pos rfl]
  obtain ⟨kind, src, dst, amt⟩ := x
  dsimp only
  rcases kinds kind with hk | hk | hk | hk | hk | hk | ⟨k1, k2, k3, k4, k5, k6⟩
  rotate_right
  have e1 : (kind == 1) = false := by simpa using k1
  have e2 : (kind == 2) = false := by simpa using k2
  have e3 : (kind == 3) = false := by simpa using k3
  have e4 : (kind == 4) = false := by simpa using k4
  have e5 : (kind == 5) = false := by simpa using k5
  have e6 : (kind == 6) = false := by simpa using k6
  all_goals try subst hk
  all_goals rcases eq_cases src dst with ⟨hs, hs'⟩ | ⟨hs, hs'⟩
  all_goals
    try (have HS : Hid (src = dst) := Lib.hid hs; clear hs)
    go_enter Try.func130, Try.ntmps130
    go_wp2_with ((go_at_call 68; refine (sActionValid_any ⟨_, _, _, _⟩ _).mono ?_; rintro e w' ⟨rfl, z, rfl⟩))
    all_goals go_ret
    all_goals refine ⟨_, rfl, (.of (by repeat (first | exact Ext.refl _ | refine Ext.up ?_ _ | refine Ext.alloc ?_ _ | refine Ext.drew ?_ | refine Ext.setRow ?_ (by first | (dsimp only; omega) | exact LeS.le | exact LeS.add _ | (simp; done) | (simp; omega)) _ | refine Ext.setCell ?_ (by first | (dsimp only; omega) | exact LeS.le | exact LeS.add _ | (simp; done) | (simp; omega)) _))), ?_⟩
    all_goals try have hs := HS.out
    all_goals simp [Actn.rk, *]
    all_goals first | exact Own.nil _ _ _ _ _ | (refine Own.lit (by simp) (by first | exact LeS.le | (simp; done)) rfl ?_ encI_length (by simp); first | rfl | (simp [encI]; omega))
set_option maxHeartbeats 2000000 in
theorem sWrites_any (x : Actn) (w : World) : Calls Try.prog 129 #[.agg #[.int .i64 x.kind, .int .i64 x.src, .int .i64 x.dst, .int .i64 x.amt]] w fun e w' => ∃ v, e = .returned v ∧ Up w w' ∧ Own encI 3 1 w.heap.size w' v (if x.ok = true then x.wk else []) := by
  rcases hv : x.ok with _ | _
  · rw [if_neg (by decide)]
    go_enter Try.func129, Try.ntmps129
    go_wp2_with ((go_at_call 68; refine (sActionValid_any ⟨_, _, _, _⟩ _).mono ?_; rintro e w' ⟨rfl, z, rfl⟩))
    go_ret
    refine ⟨_, rfl, (.of (by repeat (first | exact Ext.refl _ | refine Ext.up ?_ _ | refine Ext.alloc ?_ _ | refine Ext.drew ?_ | refine Ext.setRow ?_ (by first | (dsimp only; omega) | exact LeS.le | exact LeS.add _ | (simp; done) | (simp; omega)) _ | refine Ext.setCell ?_ (by first | (dsimp only; omega) | exact LeS.le | exact LeS.add _ | (simp; done) | (simp; omega)) _))), ?_⟩
    refine Own.lit (by simp) ?_ rfl rfl encI_length (by simp)
    exact LeS.le
  rw [if_pos rfl]
  obtain ⟨kind, src, dst, amt⟩ := x
  dsimp only
  rcases kinds kind with hk | hk | hk | hk | hk | hk | ⟨k1, k2, k3, k4, k5, k6⟩
  rotate_right
  have e1 : (kind == 1) = false := by simpa using k1
  have e2 : (kind == 2) = false := by simpa using k2
  have e3 : (kind == 3) = false := by simpa using k3
  have e4 : (kind == 4) = false := by simpa using k4
  have e5 : (kind == 5) = false := by simpa using k5
  have e6 : (kind == 6) = false := by simpa using k6
  all_goals try subst hk
  all_goals rcases eq_cases src dst with ⟨hs, hs'⟩ | ⟨hs, hs'⟩
  all_goals
    try (have HS : Hid (src = dst) := Lib.hid hs; clear hs)
    go_enter Try.func129, Try.ntmps129
    go_wp2_with ((go_at_call 68; refine (sActionValid_any ⟨_, _, _, _⟩ _).mono ?_; rintro e w' ⟨rfl, z, rfl⟩))
    all_goals go_ret
    all_goals refine ⟨_, rfl, (.of (by repeat (first | exact Ext.refl _ | refine Ext.up ?_ _ | refine Ext.alloc ?_ _ | refine Ext.drew ?_ | refine Ext.setRow ?_ (by first | (dsimp only; omega) | exact LeS.le | exact LeS.add _ | (simp; done) | (simp; omega)) _ | refine Ext.setCell ?_ (by first | (dsimp only; omega) | exact LeS.le | exact LeS.add _ | (simp; done) | (simp; omega)) _))), ?_⟩
    all_goals try have hs := HS.out
    all_goals simp [Actn.wk, *]
    all_goals first | exact Own.nil _ _ _ _ _ | (refine Own.lit (by simp) (by first | exact LeS.le | (simp; done)) rfl ?_ encI_length (by simp); first | rfl | (simp [encI]; omega))
end Go.Proofs.Ytknohbdhbjppjaa
