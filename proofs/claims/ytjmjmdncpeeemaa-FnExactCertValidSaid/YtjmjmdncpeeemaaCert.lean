/- Walks: certificates. -/
import Derived.Test.YtjmjmdncpeeemaaProg
import Derived.Test.YtjmjmdncpeeemaaNum
namespace Go.Proofs.Ytjmjmdncpeeemaa
open Go Go.RowKit Go.Proofs

def certOk (s v g : Int) : Bool := inR s 0 1000002 && (inR v 0 1000 && inR g 0 15)

theorem toCert_any (s v g : Int) (w : World) : Calls Try.prog 16 #[.agg #[.int .i64 s, .int .i64 v, .int .i64 g]] w fun e w' => e = .returned (.agg #[.int .i64 s, .int .i64 v, .int .i64 g]) ∧ Up w w' := by
  go_enter Try.func16, Try.ntmps16
  go_wp2_with fail
  refine bodyPost_ret (v := .agg #[.int .i64 s, .int .i64 v, .int .i64 g]) (by simp [results, Try.results16, go_sem]) rfl ?_
  exact ⟨rfl, (.of (by repeat (first | exact Ext.refl _ | refine Ext.up ?_ _ | refine Ext.alloc ?_ _ | refine Ext.drew ?_)))⟩
theorem iCertValid_any (s v g : Int) (w : World) : Calls Try.prog 17 #[.agg #[.int .i64 s, .int .i64 v, .int .i64 g]] w fun e w' => e = .returned (.bool (certOk s v g)) ∧ Up w w' := by
  rcases guards3 (inR s 0 1000002) (inR v 0 1000) (inR g 0 15) with h1 | ⟨h1, h2⟩ | ⟨h1, h2, h3⟩ | ⟨h1, h2, h3⟩
  all_goals
    go_enter Try.func17, Try.ntmps17
    go_wp2_with (first | (go_at_call 62; refine (isSum_any _ _).mono ?_; rintro e w' ⟨rfl, rfl⟩) | (go_at_call 63; refine (isView_any _ _).mono ?_; rintro e w' ⟨rfl, rfl⟩) | (go_at_call 64; refine (isSigners_any _ _).mono ?_; rintro e w' ⟨rfl, rfl⟩))
    go_ret
    exact ⟨by simp [certOk, *], (.of (by repeat (first | exact Ext.refl _ | refine Ext.up ?_ _ | refine Ext.alloc ?_ _ | refine Ext.drew ?_)))⟩
theorem sCertValid_any (s v g : Int) (w : World) : Calls Try.prog 15 #[.agg #[.int .i64 s, .int .i64 v, .int .i64 g]] w fun e w' => e = .returned (.bool (certOk s v g)) ∧ Up w w' := by
  rcases guards3 (inR s 0 1000002) (inR v 0 1000) (inR g 0 15) with h1 | ⟨h1, h2⟩ | ⟨h1, h2, h3⟩ | ⟨h1, h2, h3⟩
  all_goals
    go_enter Try.func15, Try.ntmps15
    go_wp2_with (go_at_call 61; refine (l1In_any _ _ _ _).mono ?_; rintro e w' ⟨rfl, rfl⟩)
    go_ret
    exact ⟨by simp [certOk, *], (.of (by repeat (first | exact Ext.refl _ | refine Ext.up ?_ _ | refine Ext.alloc ?_ _ | refine Ext.drew ?_)))⟩
theorem FnExactCertValid_any (s v g : Int) (w : World) : Calls Try.prog 3 #[.agg #[.int .i64 s, .int .i64 v, .int .i64 g]] w fun e w' => e = .returned (.bool true) ∧ Up w w' := by
  go_enter Try.func3, Try.ntmps3
  go_wp2_with (first | (go_at_call 16; refine (toCert_any _ _ _ _).mono ?_; rintro e w' ⟨rfl, z, rfl⟩) | (go_at_call 15; refine (sCertValid_any _ _ _ _).mono ?_; rintro e w' ⟨rfl, z, rfl⟩) | (go_at_call 17; refine (iCertValid_any _ _ _ _).mono ?_; rintro e w' ⟨rfl, z, rfl⟩))
  go_ret
  exact ⟨rfl, (.of (by repeat (first | exact Ext.refl _ | refine Ext.up ?_ _ | refine Ext.alloc ?_ _ | refine Ext.drew ?_)))⟩
end Go.Proofs.Ytjmjmdncpeeemaa
