/- Walks: certificates. Walk: FnExactJoinCerts. -/
import Derived.Test.YtphkimbhjfjjkaaProg
import Derived.Test.YtphkimbhjfjjkaaGBSTop01
import Derived.Test.YtphkimbhjfjjkaaGBSTop02
import Derived.Deep.DeepCutAuto
set_option linter.unusedSimpArgs false
set_option linter.unusedVariables false
namespace Go.Proofs.Ytphkimbhjfjjkaa
open Go Go.RowKit Go.Proofs

def Crt.ok (c : Crt) : Bool := inR c.s 0 1000002 && (inR c.v 0 1000 && inR c.g 0 15)
/-- How many members sign. -/
def many (g : Int) : Int := if g ≤ 0 then 0 else [0, 1, 1, 2, 1, 2, 2, 3, 1, 2, 2, 3, 2, 3, 3, 4].getD g.toNat 0
def Crt.counts (c : Crt) : Bool := c.ok && decide (3 ≤ many c.g)
def orI (x y : Int) : Int := bits BinOp.or IntKind.i64 x y
def Crt.joins (a b : Crt) : Bool := a.ok && (b.ok && (decide (a.s = b.s) && decide (a.v = b.v)))
def joinC (a b : Crt) : Crt := if a.joins b then ⟨a.s, a.v, orI a.g b.g⟩ else ⟨0, 0, 0⟩
theorem upto15 {n : Int} (h0 : 0 ≤ n) (h1 : n ≤ 15) : n = 0 ∨ n = 1 ∨ n = 2 ∨ n = 3 ∨ n = 4 ∨ n = 5 ∨ n = 6 ∨ n = 7 ∨ n = 8 ∨ n = 9 ∨ n = 10 ∨ n = 11 ∨ n = 12 ∨ n = 13 ∨ n = 14 ∨ n = 15 := by omega

theorem iCertValid_any (c : Crt) (w : World) : Calls Try.prog 24 #[.agg #[.int .i64 c.s, .int .i64 c.v, .int .i64 c.g]] w fun e w' => e = .returned (.bool c.ok) ∧ Up w w' := by
  rcases guards3 (inR c.s 0 1000002) (inR c.v 0 1000) (inR c.g 0 15) with h1 | ⟨h1, h2⟩ | ⟨h1, h2, h3⟩ | ⟨h1, h2, h3⟩
  all_goals
    go_enter Try.func24, Try.ntmps24
    go_wp2_with (first | (go_at_call 66; refine (isSum_any _ _).mono ?_; rintro e w' ⟨rfl, rfl⟩) | (go_at_call 68; refine (isView_any _ _).mono ?_; rintro e w' ⟨rfl, rfl⟩) | (go_at_call 72; refine (isSigners_any _ _).mono ?_; rintro e w' ⟨rfl, rfl⟩))
    go_ret
    exact ⟨by simp [Crt.ok, *], (.of (by repeat (first | exact Ext.refl _ | refine Ext.up ?_ _ | refine Ext.alloc ?_ _ | refine Ext.drew ?_ | refine Ext.setRow ?_ (by first | (dsimp only; omega) | exact LeS.le | exact LeS.add _ | (simp; done) | (simp; omega)) _ | refine Ext.setCell ?_ (by first | (dsimp only; omega) | exact LeS.le | exact LeS.add _ | (simp; done) | (simp; omega)) _)))⟩
theorem sCertValid_any (c : Crt) (w : World) : Calls Try.prog 25 #[.agg #[.int .i64 c.s, .int .i64 c.v, .int .i64 c.g]] w fun e w' => e = .returned (.bool c.ok) ∧ Up w w' := by
  rcases guards3 (inR c.s 0 1000002) (inR c.v 0 1000) (inR c.g 0 15) with h1 | ⟨h1, h2⟩ | ⟨h1, h2, h3⟩ | ⟨h1, h2, h3⟩
  all_goals
    go_enter Try.func25, Try.ntmps25
    go_wp2_with (go_at_call 64; refine (l1In_any _ _ _ _).mono ?_; rintro e w' ⟨rfl, rfl⟩)
    go_ret
    exact ⟨by simp [Crt.ok, *], (.of (by repeat (first | exact Ext.refl _ | refine Ext.up ?_ _ | refine Ext.alloc ?_ _ | refine Ext.drew ?_ | refine Ext.setRow ?_ (by first | (dsimp only; omega) | exact LeS.le | exact LeS.add _ | (simp; done) | (simp; omega)) _ | refine Ext.setCell ?_ (by first | (dsimp only; omega) | exact LeS.le | exact LeS.add _ | (simp; done) | (simp; omega)) _)))⟩
set_option maxHeartbeats 2000000 in
theorem iJoinCerts_any (a b : Crt) (w : World) : Calls Try.prog 42 #[.agg #[.int .i64 a.s, .int .i64 a.v, .int .i64 a.g], .agg #[.int .i64 b.s, .int .i64 b.v, .int .i64 b.g]] w
    fun e w' => e = .returned (.tuple #[.agg #[.int .i64 (joinC a b).s, .int .i64 (joinC a b).v, .int .i64 (joinC a b).g], .bool (a.joins b)]) ∧ Up w w' := by
  rcases ha : a.ok with _ | _
  · have hj : a.joins b = false := by simp [Crt.joins, ha]
    rw [joinC, hj]
    go_enter Try.func42, Try.ntmps42
    go_wp2_with (go_at_call 24; refine (iCertValid_any _ _).mono ?_; rintro e w' ⟨rfl, z, rfl⟩)
    refine bodyPost_ret (v := .tuple #[.agg #[.int .i64 0, .int .i64 0, .int .i64 0], .bool false]) (by simp [results, Try.results42, go_sem]) rfl ?_
    exact ⟨rfl, (.of (by repeat (first | exact Ext.refl _ | refine Ext.up ?_ _ | refine Ext.alloc ?_ _ | refine Ext.drew ?_ | refine Ext.setRow ?_ (by first | (dsimp only; omega) | exact LeS.le | exact LeS.add _ | (simp; done) | (simp; omega)) _ | refine Ext.setCell ?_ (by first | (dsimp only; omega) | exact LeS.le | exact LeS.add _ | (simp; done) | (simp; omega)) _)))⟩
  rcases hb : b.ok with _ | _
  · have hj : a.joins b = false := by simp [Crt.joins, hb]
    rw [joinC, hj]
    go_enter Try.func42, Try.ntmps42
    go_wp2_with (go_at_call 24; refine (iCertValid_any _ _).mono ?_; rintro e w' ⟨rfl, z, rfl⟩)
    refine bodyPost_ret (v := .tuple #[.agg #[.int .i64 0, .int .i64 0, .int .i64 0], .bool false]) (by simp [results, Try.results42, go_sem]) rfl ?_
    exact ⟨rfl, (.of (by repeat (first | exact Ext.refl _ | refine Ext.up ?_ _ | refine Ext.alloc ?_ _ | refine Ext.drew ?_ | refine Ext.setRow ?_ (by first | (dsimp only; omega) | exact LeS.le | exact LeS.add _ | (simp; done) | (simp; omega)) _ | refine Ext.setCell ?_ (by first | (dsimp only; omega) | exact LeS.le | exact LeS.add _ | (simp; done) | (simp; omega)) _)))⟩
  rcases ne_cases a.s b.s with ⟨h1, h1'⟩ | ⟨h1, h1'⟩
  · have hj : a.joins b = false := by simp [Crt.joins, h1]
    rw [joinC, hj]
    go_enter Try.func42, Try.ntmps42
    go_wp2_with (go_at_call 24; refine (iCertValid_any _ _).mono ?_; rintro e w' ⟨rfl, z, rfl⟩)
    refine bodyPost_ret (v := .tuple #[.agg #[.int .i64 0, .int .i64 0, .int .i64 0], .bool false]) (by simp [results, Try.results42, go_sem]) rfl ?_
    exact ⟨rfl, (.of (by repeat (first | exact Ext.refl _ | refine Ext.up ?_ _ | refine Ext.alloc ?_ _ | refine Ext.drew ?_ | refine Ext.setRow ?_ (by first | (dsimp only; omega) | exact LeS.le | exact LeS.add _ | (simp; done) | (simp; omega)) _ | refine Ext.setCell ?_ (by first | (dsimp only; omega) | exact LeS.le | exact LeS.add _ | (simp; done) | (simp; omega)) _)))⟩
  rcases ne_cases a.v b.v with ⟨h2, h2'⟩ | ⟨h2, h2'⟩
  · have hj : a.joins b = false := by simp [Crt.joins, h2]
    rw [joinC, hj]
    clear h1
    go_enter Try.func42, Try.ntmps42
    go_wp2_with (go_at_call 24; refine (iCertValid_any _ _).mono ?_; rintro e w' ⟨rfl, z, rfl⟩)
    refine bodyPost_ret (v := .tuple #[.agg #[.int .i64 0, .int .i64 0, .int .i64 0], .bool false]) (by simp [results, Try.results42, go_sem]) rfl ?_
    exact ⟨rfl, (.of (by repeat (first | exact Ext.refl _ | refine Ext.up ?_ _ | refine Ext.alloc ?_ _ | refine Ext.drew ?_ | refine Ext.setRow ?_ (by first | (dsimp only; omega) | exact LeS.le | exact LeS.add _ | (simp; done) | (simp; omega)) _ | refine Ext.setCell ?_ (by first | (dsimp only; omega) | exact LeS.le | exact LeS.add _ | (simp; done) | (simp; omega)) _)))⟩
  have hj : a.joins b = true := by simp [Crt.joins, ha, hb, h1, h2]
  rw [joinC, hj]
  unfold orI
  clear h1 h2
  go_enter Try.func42, Try.ntmps42
  go_wp2_with (go_at_call 24; refine (iCertValid_any _ _).mono ?_; rintro e w' ⟨rfl, z, rfl⟩)
  refine bodyPost_ret (v := .tuple #[.agg #[.int .i64 a.s, .int .i64 a.v, .int .i64 (bits BinOp.or IntKind.i64 a.g b.g)], .bool true]) (by simp [results, Try.results42, go_sem]) rfl ?_
  exact ⟨rfl, (.of (by repeat (first | exact Ext.refl _ | refine Ext.up ?_ _ | refine Ext.alloc ?_ _ | refine Ext.drew ?_ | refine Ext.setRow ?_ (by first | (dsimp only; omega) | exact LeS.le | exact LeS.add _ | (simp; done) | (simp; omega)) _ | refine Ext.setCell ?_ (by first | (dsimp only; omega) | exact LeS.le | exact LeS.add _ | (simp; done) | (simp; omega)) _)))⟩
set_option maxHeartbeats 2000000 in
theorem sJoinCerts_any (a b : Crt) (w : World) : Calls Try.prog 44 #[.agg #[.int .i64 a.s, .int .i64 a.v, .int .i64 a.g], .agg #[.int .i64 b.s, .int .i64 b.v, .int .i64 b.g]] w
    fun e w' => e = .returned (.tuple #[.agg #[.int .i64 (joinC a b).s, .int .i64 (joinC a b).v, .int .i64 (joinC a b).g], .bool (a.joins b)]) ∧ Up w w' := by
  rcases ha : a.ok with _ | _
  · have hj : a.joins b = false := by simp [Crt.joins, ha]
    rw [joinC, hj]
    go_enter Try.func44, Try.ntmps44
    go_wp2_with (go_at_call 25; refine (sCertValid_any _ _).mono ?_; rintro e w' ⟨rfl, z, rfl⟩)
    refine bodyPost_ret (v := .tuple #[.agg #[.int .i64 0, .int .i64 0, .int .i64 0], .bool false]) (by simp [results, Try.results44, go_sem]) rfl ?_
    exact ⟨rfl, (.of (by repeat (first | exact Ext.refl _ | refine Ext.up ?_ _ | refine Ext.alloc ?_ _ | refine Ext.drew ?_ | refine Ext.setRow ?_ (by first | (dsimp only; omega) | exact LeS.le | exact LeS.add _ | (simp; done) | (simp; omega)) _ | refine Ext.setCell ?_ (by first | (dsimp only; omega) | exact LeS.le | exact LeS.add _ | (simp; done) | (simp; omega)) _)))⟩
  rcases hb : b.ok with _ | _
  · have hj : a.joins b = false := by simp [Crt.joins, hb]
    rw [joinC, hj]
    go_enter Try.func44, Try.ntmps44
    go_wp2_with (go_at_call 25; refine (sCertValid_any _ _).mono ?_; rintro e w' ⟨rfl, z, rfl⟩)
    refine bodyPost_ret (v := .tuple #[.agg #[.int .i64 0, .int .i64 0, .int .i64 0], .bool false]) (by simp [results, Try.results44, go_sem]) rfl ?_
    exact ⟨rfl, (.of (by repeat (first | exact Ext.refl _ | refine Ext.up ?_ _ | refine Ext.alloc ?_ _ | refine Ext.drew ?_ | refine Ext.setRow ?_ (by first | (dsimp only; omega) | exact LeS.le | exact LeS.add _ | (simp; done) | (simp; omega)) _ | refine Ext.setCell ?_ (by first | (dsimp only; omega) | exact LeS.le | exact LeS.add _ | (simp; done) | (simp; omega)) _)))⟩
  rcases ne_cases a.s b.s with ⟨h1, h1'⟩ | ⟨h1, h1'⟩
  · have hj : a.joins b = false := by simp [Crt.joins, h1]
    rw [joinC, hj]
    go_enter Try.func44, Try.ntmps44
    go_wp2_with (go_at_call 25; refine (sCertValid_any _ _).mono ?_; rintro e w' ⟨rfl, z, rfl⟩)
    refine bodyPost_ret (v := .tuple #[.agg #[.int .i64 0, .int .i64 0, .int .i64 0], .bool false]) (by simp [results, Try.results44, go_sem]) rfl ?_
    exact ⟨rfl, (.of (by repeat (first | exact Ext.refl _ | refine Ext.up ?_ _ | refine Ext.alloc ?_ _ | refine Ext.drew ?_ | refine Ext.setRow ?_ (by first | (dsimp only; omega) | exact LeS.le | exact LeS.add _ | (simp; done) | (simp; omega)) _ | refine Ext.setCell ?_ (by first | (dsimp only; omega) | exact LeS.le | exact LeS.add _ | (simp; done) | (simp; omega)) _)))⟩
  rcases ne_cases a.v b.v with ⟨h2, h2'⟩ | ⟨h2, h2'⟩
  · have hj : a.joins b = false := by simp [Crt.joins, h2]
    rw [joinC, hj]
    clear h1
    go_enter Try.func44, Try.ntmps44
    go_wp2_with (go_at_call 25; refine (sCertValid_any _ _).mono ?_; rintro e w' ⟨rfl, z, rfl⟩)
    refine bodyPost_ret (v := .tuple #[.agg #[.int .i64 0, .int .i64 0, .int .i64 0], .bool false]) (by simp [results, Try.results44, go_sem]) rfl ?_
    exact ⟨rfl, (.of (by repeat (first | exact Ext.refl _ | refine Ext.up ?_ _ | refine Ext.alloc ?_ _ | refine Ext.drew ?_ | refine Ext.setRow ?_ (by first | (dsimp only; omega) | exact LeS.le | exact LeS.add _ | (simp; done) | (simp; omega)) _ | refine Ext.setCell ?_ (by first | (dsimp only; omega) | exact LeS.le | exact LeS.add _ | (simp; done) | (simp; omega)) _)))⟩
  have hj : a.joins b = true := by simp [Crt.joins, ha, hb, h1, h2]
  rw [joinC, hj]
  unfold orI
  clear h1 h2
  go_enter Try.func44, Try.ntmps44
  go_wp2_with (go_at_call 25; refine (sCertValid_any _ _).mono ?_; rintro e w' ⟨rfl, z, rfl⟩)
  refine bodyPost_ret (v := .tuple #[.agg #[.int .i64 a.s, .int .i64 a.v, .int .i64 (bits BinOp.or IntKind.i64 a.g b.g)], .bool true]) (by simp [results, Try.results44, go_sem]) rfl ?_
  exact ⟨rfl, (.of (by repeat (first | exact Ext.refl _ | refine Ext.up ?_ _ | refine Ext.alloc ?_ _ | refine Ext.drew ?_ | refine Ext.setRow ?_ (by first | (dsimp only; omega) | exact LeS.le | exact LeS.add _ | (simp; done) | (simp; omega)) _ | refine Ext.setCell ?_ (by first | (dsimp only; omega) | exact LeS.le | exact LeS.add _ | (simp; done) | (simp; omega)) _)))⟩
theorem onesCount64 (n : Int) (w : World) (h0 : 0 ≤ n) (h1 : n ≤ 15) : Calls Try.prog 136 #[.int .u64 n] w fun e w' => e = .returned (.int .i64 (many n)) ∧ w = w' := by
  rcases upto15 h0 h1 with h | h | h | h | h | h | h | h | h | h | h | h | h | h | h | h
  all_goals
    subst h
    go_enter Try.func136, Try.ntmps136
    go_wp2
    go_ret
    exact ⟨by kernel_rfl, rfl⟩
theorem onesCount (n : Int) (w : World) (h0 : 0 ≤ n) (h1 : n ≤ 15) : Calls Try.prog 120 #[.int .u64 n] w fun e w' => e = .returned (.int .i64 (many n)) ∧ w = w' := by
  go_enter Try.func120, Try.ntmps120
  go_wp2_with (go_at_call 136; refine (onesCount64 _ _ (by omega) (by omega)).mono ?_; rintro e w' ⟨rfl, rfl⟩)
  go_ret
  exact ⟨rfl, rfl⟩
theorem enough_any (n : Int) (w : World) (h0 : 0 ≤ n) (h1 : n ≤ 15) : Calls Try.prog 85 #[.int .i64 n] w fun e w' => e = .returned (.bool (decide (3 ≤ many n))) ∧ w = w' := by
  go_enter Try.func85, Try.ntmps85
  go_wp2_with (go_at_call 120; refine (onesCount _ _ (by omega) (by omega)).mono ?_; rintro e w' ⟨rfl, rfl⟩)
  go_ret
  exact ⟨rfl, rfl⟩
theorem l15Many_any (n : Int) (w : World) (h0 : 0 ≤ n) (h1 : n ≤ 15) : Calls Try.prog 86 #[.int .i64 n] w fun e w' => e = .returned (.int .i64 (many n)) ∧ w = w' := by
  rcases upto15 h0 h1 with h | h | h | h | h | h | h | h | h | h | h | h | h | h | h | h
  all_goals
    subst h
    go_enter Try.func86, Try.ntmps86
    go_wp2
    refine wp_loop_rounds 5 ?_
    rw [rounds_succ]; go_wp2
    rw [rounds_succ]; go_wp2
    rw [rounds_succ]; go_wp2
    rw [rounds_succ]; go_wp2
    rw [rounds_succ]; go_wp2
    go_ret
    exact ⟨by kernel_rfl, rfl⟩
theorem iCertCounts_any (c : Crt) (w : World) : Calls Try.prog 40 #[.agg #[.int .i64 c.s, .int .i64 c.v, .int .i64 c.g]] w fun e w' => e = .returned (.bool c.counts) ∧ Up w w' := by
  rcases h : c.ok with _ | _
  · rw [Crt.counts, h]
    go_enter Try.func40, Try.ntmps40
    go_wp2_with (go_at_call 24; refine (iCertValid_any c _).mono ?_; rintro e w' ⟨rfl, z, rfl⟩)
    go_ret
    exact ⟨rfl, (.of (by repeat (first | exact Ext.refl _ | refine Ext.up ?_ _ | refine Ext.alloc ?_ _ | refine Ext.drew ?_ | refine Ext.setRow ?_ (by first | (dsimp only; omega) | exact LeS.le | exact LeS.add _ | (simp; done) | (simp; omega)) _ | refine Ext.setCell ?_ (by first | (dsimp only; omega) | exact LeS.le | exact LeS.add _ | (simp; done) | (simp; omega)) _)))⟩
  · have hg : inR c.g 0 15 = true := by simp [Crt.ok] at h; exact h.2.2
    obtain ⟨g0, g1⟩ := inR_iff.1 hg
    clear hg
    rw [Crt.counts, h, Bool.true_and]
    go_enter Try.func40, Try.ntmps40
    go_wp2_with (first | (go_at_call 24; refine (iCertValid_any c _).mono ?_; rintro e w' ⟨rfl, z, rfl⟩) | (go_at_call 85; refine (enough_any _ _ g0 g1).mono ?_; rintro e w' ⟨rfl, rfl⟩))
    go_ret
    exact ⟨rfl, (.of (by repeat (first | exact Ext.refl _ | refine Ext.up ?_ _ | refine Ext.alloc ?_ _ | refine Ext.drew ?_ | refine Ext.setRow ?_ (by first | (dsimp only; omega) | exact LeS.le | exact LeS.add _ | (simp; done) | (simp; omega)) _ | refine Ext.setCell ?_ (by first | (dsimp only; omega) | exact LeS.le | exact LeS.add _ | (simp; done) | (simp; omega)) _)))⟩
theorem sCertCounts_any (c : Crt) (w : World) : Calls Try.prog 41 #[.agg #[.int .i64 c.s, .int .i64 c.v, .int .i64 c.g]] w fun e w' => e = .returned (.bool c.counts) ∧ Up w w' := by
  rcases h : c.ok with _ | _
  · rw [Crt.counts, h]
    go_enter Try.func41, Try.ntmps41
    go_wp2_with (go_at_call 25; refine (sCertValid_any c _).mono ?_; rintro e w' ⟨rfl, z, rfl⟩)
    go_ret
    exact ⟨rfl, (.of (by repeat (first | exact Ext.refl _ | refine Ext.up ?_ _ | refine Ext.alloc ?_ _ | refine Ext.drew ?_ | refine Ext.setRow ?_ (by first | (dsimp only; omega) | exact LeS.le | exact LeS.add _ | (simp; done) | (simp; omega)) _ | refine Ext.setCell ?_ (by first | (dsimp only; omega) | exact LeS.le | exact LeS.add _ | (simp; done) | (simp; omega)) _)))⟩
  · have hg : inR c.g 0 15 = true := by simp [Crt.ok] at h; exact h.2.2
    obtain ⟨g0, g1⟩ := inR_iff.1 hg
    clear hg
    rw [Crt.counts, h, Bool.true_and]
    go_enter Try.func41, Try.ntmps41
    go_wp2_with (first | (go_at_call 25; refine (sCertValid_any c _).mono ?_; rintro e w' ⟨rfl, z, rfl⟩) | (go_at_call 86; refine (l15Many_any _ _ g0 g1).mono ?_; rintro e w' ⟨rfl, rfl⟩))
    go_ret
    exact ⟨rfl, (.of (by repeat (first | exact Ext.refl _ | refine Ext.up ?_ _ | refine Ext.alloc ?_ _ | refine Ext.drew ?_ | refine Ext.setRow ?_ (by first | (dsimp only; omega) | exact LeS.le | exact LeS.add _ | (simp; done) | (simp; omega)) _ | refine Ext.setCell ?_ (by first | (dsimp only; omega) | exact LeS.le | exact LeS.add _ | (simp; done) | (simp; omega)) _)))⟩
end Go.Proofs.Ytphkimbhjfjjkaa
namespace Go.Proofs.Ytphkimbhjfjjkaa
open Go Go.RowKit Go.Proofs

end Go.Proofs.Ytphkimbhjfjjkaa
