/- The law FnExactConflict's walk. -/
import Derived.Test.YtjmjmdncpeeemaaHeld
namespace Go.Proofs.Ytjmjmdncpeeemaa
open Go Go.RowKit Go.Proofs

set_option maxHeartbeats 1000000 in
theorem FnExactConflict_any (x y : Actn) (w : World) : Calls Try.prog 7 #[.agg #[.int .i64 x.kind, .int .i64 x.src, .int .i64 x.dst, .int .i64 x.amt], .agg #[.int .i64 y.kind, .int .i64 y.src, .int .i64 y.dst, .int .i64 y.amt]] w fun e w' => e = .returned (.bool true) ∧ Up w w' := by
  obtain ⟨b, hb⟩ : ∃ b, conflict x y = b := ⟨_, rfl⟩
  have kx := fun w => toAction_any x w
  have ky := fun w => toAction_any y w
  have kc := fun w => sConflict_any x y w
  have ki := fun w => iConflict_any x y w
  rw [hb] at kc ki
  go_enter Try.func7, Try.ntmps7
  go_wp2_with fail
  (refine wp_region_up (by kernel_rfl) (by kernel_rfl) ?_; (repeat (go_big_quiet_step (first | (go_at_call 29; exact Calls.up (toAction_any _ _)) | (go_at_call 28; exact Calls.up (kc _))))); refine wpQuiet_nil ?_; intro _ hw'; obtain ⟨zq, hw''⟩ := hw'; subst hw'')
  go_wp2_with fail
  (refine wp_region_up (by kernel_rfl) (by kernel_rfl) ?_; (repeat (go_big_quiet_step (first | (go_at_call 29; exact Calls.up (toAction_any _ _)) | (go_at_call 30; exact Calls.up (ki _))))); refine wpQuiet_nil ?_; intro _ hw'; obtain ⟨zq, hw''⟩ := hw'; subst hw'')
  cases b
  · go_wp2_with fail
    go_ret
    exact ⟨rfl, (.of (by repeat (first | exact Ext.refl _ | refine Ext.up ?_ _ | refine Ext.alloc ?_ _ | refine Ext.drew ?_ | refine Ext.setCell ?_ (by first | (dsimp only; omega) | exact LeS.le | exact LeS.add _ | (simp; done) | (simp; omega)) _)))⟩
  · go_wp2_with fail
    go_ret
    exact ⟨rfl, (.of (by repeat (first | exact Ext.refl _ | refine Ext.up ?_ _ | refine Ext.alloc ?_ _ | refine Ext.drew ?_ | refine Ext.setCell ?_ (by first | (dsimp only; omega) | exact LeS.le | exact LeS.add _ | (simp; done) | (simp; omega)) _)))⟩
end Go.Proofs.Ytjmjmdncpeeemaa
