/- Walks: slices.Equal at entries, versions and numbers. Walks: versions. Walks: dropping versions. Plain laws: versions with those of an action. Plain facts on bits of an int64. -/
import Derived.Test.YtnknamddonjnjaaGEoVTop00
import Derived.Test.YtnknamddonjnjaaGEoVTop01
import Derived.Test.YtnknamddonjnjaaProg
set_option linter.unusedSimpArgs false
set_option linter.unusedVariables false
namespace Go.Proofs.Ytnknamddonjnjaa
open Go Go.RowKit Go.Proofs

/-- Equal element by element. -/
def sameAt {α : Type} (same : α → α → Bool) (a b : List α) (i : Nat) : Bool := match a[i]?, b[i]? with
  | some x, some y => same x y
  | _, _ => true
def sameL {α : Type} (same : α → α → Bool) (a b : List α) : Bool := decide (a.length = b.length) && upTo (sameAt same a b) a.length
theorem sameAt_eq {α : Type} {same : α → α → Bool} {a b : List α} {i : Nat} {x y : α} (hx : a[i]? = some x) (hy : b[i]? = some y) : sameAt same a b i = same x y := by simp [sameAt, hx, hy]
theorem sameL_iff {α : Type} {same : α → α → Bool} (hs : ∀ x y, same x y = true ↔ x = y) {a b : List α} : sameL same a b = true ↔ a = b := by
  unfold sameL
  rw [Bool.and_eq_true, decide_eq_true_eq, upTo_iff]
  constructor
  · rintro ⟨h1, h2⟩
    apply List.ext_getElem?
    intro i
    by_cases hi : i < a.length
    · obtain ⟨x, hx⟩ := getElem?_some_of_lt hi
      obtain ⟨y, hy⟩ := getElem?_some_of_lt (l := b) (k := i) (by omega)
      have := h2 i hi
      rw [sameAt_eq hx hy, hs] at this
      rw [hx, hy, this]
    · rw [List.getElem?_eq_none (by omega), List.getElem?_eq_none (by omega)]
  · rintro rfl
    refine ⟨rfl, fun i hi => ?_⟩
    obtain ⟨x, hx⟩ := getElem?_some_of_lt hi
    rw [sameAt_eq hx hx, hs]
theorem sameL_refl {α : Type} {same : α → α → Bool} (hs : ∀ x y, same x y = true ↔ x = y) (a : List α) : sameL same a a = true := (sameL_iff hs).2 rfl
def sameE1 (x y : Ent) : Bool := (x.k == y.k) && (x.v == y.v)
def sameV1 (x y : Ver) : Bool := (x.k == y.k) && ((x.b == y.b) && (x.v == y.v))
def sameI1 (x y : Int) : Bool := x == y
theorem sameE1_iff (x y : Ent) : sameE1 x y = true ↔ x = y := by
  obtain ⟨a, b⟩ := x; obtain ⟨c, d⟩ := y; simp [sameE1]
theorem sameV1_iff (x y : Ver) : sameV1 x y = true ↔ x = y := by
  obtain ⟨a, b, e⟩ := x; obtain ⟨c, d, f⟩ := y; simp [sameV1]
theorem sameI1_iff (x y : Int) : sameI1 x y = true ↔ x = y := by simp [sameI1]
set_option maxRecDepth 100000 in
set_option maxHeartbeats 1000000 in
theorem eqEnts_any (l m : List Ent) (v v' : Value) (w : World) (h : SL (RF Ent.enc) 2 w v l) (h' : SL (RF Ent.enc) 2 w v' m) :
    Calls Try.prog 70 #[v, v'] w fun e w' => e = .returned (.bool (sameL sameE1 l m)) ∧ Up w w' := by
  obtain ⟨a, cap, rfl, hlen, hc⟩ := h.open
  obtain ⟨a', cap', rfl, _, hc'⟩ := h'.open
  clear h h'
  by_cases hll : l.length = m.length
  rotate_left
  · have hF := Lib.hid (show sameL sameE1 l m = false by unfold sameL; rw [decide_eq_false hll]; rfl)
    have hne : ((l.length : Int) != (m.length : Int)) = true := by rw [bne_iff_ne]; omega
    clear hll
    go_enter Try.func70, Try.ntmps70
    go_wp2_with fail
    go_ret
    exact ⟨by rw [hF.out]; rfl, (.of (by repeat (first | (with_reducible exact Ext.refl _) | (with_reducible refine Ext.up ?_ _) | (with_reducible refine Ext.alloc ?_ _) | (with_reducible refine Ext.drew ?_) | (with_reducible refine Ext.setRow ?_ (by first | exact LeS.le | exact LeS.add _ | (simp; done) | (simp; omega)) _) | (with_reducible refine Ext.setCell ?_ (by first | exact LeS.le | exact LeS.add _ | (simp; done) | (simp; omega)) _))))⟩
  have hT := Lib.hid (show sameL sameE1 l m = upTo (sameAt sameE1 l m) l.length by unfold sameL; rw [decide_eq_true hll, Bool.true_and])
  rw [← hll]
  have HLL := Lib.hid hll; clear hll
  go_enter Try.func70, Try.ntmps70
  go_wp2_with fail
  go_loopw [5, 13] (fun _ s13 wr => ∃ (k : Nat), s13 = .int .i64 k ∧ k ≤ l.length ∧ Up w wr ∧ upTo (sameAt sameE1 l m) k = true) (fun _ s13 _ => l.length - (intOf s13).toNat)
  case atStart => exact ⟨0, rfl, Nat.zero_le _, .of (Ext.refl _), rfl⟩
  case round =>
    obtain ⟨k, rfl, hk, ⟨z, rfl⟩, hall⟩ := hrel
    have HALL := Lib.hid hall; clear hall
    by_cases hlt : k < l.length
    · obtain ⟨x, hxk⟩ := getElem?_some_of_lt hlt
      obtain ⟨y, hyk⟩ := getElem?_some_of_lt (l := m) (k := k) (by rw [← HLL.out]; exact hlt)
      obtain ⟨b, off, rfl, hb, hcc⟩ := hc k x hxk
      obtain ⟨b2, off2, rfl, hb2, hdd⟩ := hc' k y hyk
      have Hat := Lib.hid (sameAt_eq (same := sameE1) hxk hyk)
      obtain ⟨xk, xv⟩ := x; obtain ⟨yk, yv⟩ := y
      have c0 : w.cell? ⟨b, off + k * 2, none⟩ = some (.int .i64 xk) := hcc 0 _ rfl
      have c1 : w.cell? ⟨b, off + k * 2 + 1, none⟩ = some (.int .i64 xv) := hcc 1 _ rfl
      have d0 : w.cell? ⟨b2, off2 + k * 2, none⟩ = some (.int .i64 yk) := hdd 0 _ rfl
      have d1 : w.cell? ⟨b2, off2 + k * 2 + 1, none⟩ = some (.int .i64 yv) := hdd 1 _ rfl
      have k0 : (0 : Int) ≤ (k : Int) := by omega
      have k1 : (k : Int) < l.length := by omega
      clear hc hcc hc' hdd hxk hyk
      rcases (show (xk ≠ yk) ∨ (xk = yk ∧ xv ≠ yv) ∨ (xk = yk ∧ xv = yv) by omega) with hne | ⟨rfl, hne⟩ | ⟨rfl, rfl⟩
      · have hb0 : (xk == yk) = false := by simpa using hne
        have hb0' : (xk != yk) = true := by simpa using hne
        clear hne
        go_wp2_with fail
        (refine wp_region_up (by kernel_rfl) (by kernel_rfl) ?_; (repeat (go_big_quiet_step (fail))); refine wpQuiet_nil ?_; intro _ hw'; obtain ⟨zq, hw''⟩ := hw'; subst hw'')
        go_wp2_with fail
        go_ret
        exact ⟨by rw [hT.out, upTo_false hlt (by rw [Hat.out]; simp [sameE1, hb0])]; rfl, (.of (by repeat (first | (with_reducible exact Ext.refl _) | (with_reducible refine Ext.up ?_ _) | (with_reducible refine Ext.alloc ?_ _) | (with_reducible refine Ext.drew ?_) | (with_reducible refine Ext.setRow ?_ (by first | exact LeS.le | exact LeS.add _ | (simp; done) | (simp; omega)) _) | (with_reducible refine Ext.setCell ?_ (by first | exact LeS.le | exact LeS.add _ | (simp; done) | (simp; omega)) _))))⟩
      · have hb1 : (xv == yv) = false := by simpa using hne
        have hb1' : (xv != yv) = true := by simpa using hne
        clear hne
        go_wp2_with fail
        (refine wp_region_up (by kernel_rfl) (by kernel_rfl) ?_; (repeat (go_big_quiet_step (fail))); refine wpQuiet_nil ?_; intro _ hw'; obtain ⟨zq, hw''⟩ := hw'; subst hw'')
        go_wp2_with fail
        go_ret
        exact ⟨by rw [hT.out, upTo_false hlt (by rw [Hat.out]; simp [sameE1, hb1])]; rfl, (.of (by repeat (first | (with_reducible exact Ext.refl _) | (with_reducible refine Ext.up ?_ _) | (with_reducible refine Ext.alloc ?_ _) | (with_reducible refine Ext.drew ?_) | (with_reducible refine Ext.setRow ?_ (by first | exact LeS.le | exact LeS.add _ | (simp; done) | (simp; omega)) _) | (with_reducible refine Ext.setCell ?_ (by first | exact LeS.le | exact LeS.add _ | (simp; done) | (simp; omega)) _))))⟩
      · go_wp2_with fail
        (refine wp_region_up (by kernel_rfl) (by kernel_rfl) ?_; (repeat (go_big_quiet_step (fail))); refine wpQuiet_nil ?_; intro _ hw'; obtain ⟨zq, hw''⟩ := hw'; subst hw'')
        go_wp2_with fail
        go_roundw
        case rel => exact ⟨k + 1, by go_num, by omega, (.of (by repeat (first | (with_reducible exact Ext.refl _) | (with_reducible refine Ext.up ?_ _) | (with_reducible refine Ext.alloc ?_ _) | (with_reducible refine Ext.drew ?_) | (with_reducible refine Ext.setRow ?_ (by first | exact LeS.le | exact LeS.add _ | (simp; done) | (simp; omega)) _) | (with_reducible refine Ext.setCell ?_ (by first | exact LeS.le | exact LeS.add _ | (simp; done) | (simp; omega)) _)))), upTo_succ HALL.out (by rw [Hat.out]; simp [sameE1])⟩
        case measure => simp [intOf] <;> omega
    · obtain rfl : k = l.length := by omega
      go_wp2_with fail
      go_ret
      exact ⟨by rw [hT.out, HALL.out]; rfl, (.of (by repeat (first | (with_reducible exact Ext.refl _) | (with_reducible refine Ext.up ?_ _) | (with_reducible refine Ext.alloc ?_ _) | (with_reducible refine Ext.drew ?_) | (with_reducible refine Ext.setRow ?_ (by first | exact LeS.le | exact LeS.add _ | (simp; done) | (simp; omega)) _) | (with_reducible refine Ext.setCell ?_ (by first | exact LeS.le | exact LeS.add _ | (simp; done) | (simp; omega)) _))))⟩
set_option maxRecDepth 100000 in
set_option maxHeartbeats 1000000 in
theorem eqVers_any (l m : List Ver) (v v' : Value) (w : World) (h : SL (RF Ver.enc) 3 w v l) (h' : SL (RF Ver.enc) 3 w v' m) :
    Calls Try.prog 18 #[v, v'] w fun e w' => e = .returned (.bool (sameL sameV1 l m)) ∧ Up w w' := by
  obtain ⟨a, cap, rfl, hlen, hc⟩ := h.open
  obtain ⟨a', cap', rfl, _, hc'⟩ := h'.open
  clear h h'
  by_cases hll : l.length = m.length
  rotate_left
  · have hF := Lib.hid (show sameL sameV1 l m = false by unfold sameL; rw [decide_eq_false hll]; rfl)
    have hne : ((l.length : Int) != (m.length : Int)) = true := by rw [bne_iff_ne]; omega
    clear hll
    go_enter Try.func18, Try.ntmps18
    go_wp2_with fail
    go_ret
    exact ⟨by rw [hF.out]; rfl, (.of (by repeat (first | (with_reducible exact Ext.refl _) | (with_reducible refine Ext.up ?_ _) | (with_reducible refine Ext.alloc ?_ _) | (with_reducible refine Ext.drew ?_) | (with_reducible refine Ext.setRow ?_ (by first | exact LeS.le | exact LeS.add _ | (simp; done) | (simp; omega)) _) | (with_reducible refine Ext.setCell ?_ (by first | exact LeS.le | exact LeS.add _ | (simp; done) | (simp; omega)) _))))⟩
  have hT := Lib.hid (show sameL sameV1 l m = upTo (sameAt sameV1 l m) l.length by unfold sameL; rw [decide_eq_true hll, Bool.true_and])
  rw [← hll]
  have HLL := Lib.hid hll; clear hll
  go_enter Try.func18, Try.ntmps18
  go_wp2_with fail
  go_loopw [5, 13] (fun _ s13 wr => ∃ (k : Nat), s13 = .int .i64 k ∧ k ≤ l.length ∧ Up w wr ∧ upTo (sameAt sameV1 l m) k = true) (fun _ s13 _ => l.length - (intOf s13).toNat)
  case atStart => exact ⟨0, rfl, Nat.zero_le _, .of (Ext.refl _), rfl⟩
  case round =>
    obtain ⟨k, rfl, hk, ⟨z, rfl⟩, hall⟩ := hrel
    have HALL := Lib.hid hall; clear hall
    by_cases hlt : k < l.length
    · obtain ⟨x, hxk⟩ := getElem?_some_of_lt hlt
      obtain ⟨y, hyk⟩ := getElem?_some_of_lt (l := m) (k := k) (by rw [← HLL.out]; exact hlt)
      obtain ⟨b, off, rfl, hb, hcc⟩ := hc k x hxk
      obtain ⟨b2, off2, rfl, hb2, hdd⟩ := hc' k y hyk
      have Hat := Lib.hid (sameAt_eq (same := sameV1) hxk hyk)
      obtain ⟨xk, xb, xv⟩ := x; obtain ⟨yk, yb, yv⟩ := y
      have c0 : w.cell? ⟨b, off + k * 3, none⟩ = some (.int .i64 xk) := hcc 0 _ rfl
      have c1 : w.cell? ⟨b, off + k * 3 + 1, none⟩ = some (.int .i64 xb) := hcc 1 _ rfl
      have c2 : w.cell? ⟨b, off + k * 3 + 2, none⟩ = some (.int .i64 xv) := hcc 2 _ rfl
      have d0 : w.cell? ⟨b2, off2 + k * 3, none⟩ = some (.int .i64 yk) := hdd 0 _ rfl
      have d1 : w.cell? ⟨b2, off2 + k * 3 + 1, none⟩ = some (.int .i64 yb) := hdd 1 _ rfl
      have d2 : w.cell? ⟨b2, off2 + k * 3 + 2, none⟩ = some (.int .i64 yv) := hdd 2 _ rfl
      have k0 : (0 : Int) ≤ (k : Int) := by omega
      have k1 : (k : Int) < l.length := by omega
      clear hc hcc hc' hdd hxk hyk
      rcases (show (xk ≠ yk) ∨ (xk = yk ∧ xb ≠ yb) ∨ (xk = yk ∧ xb = yb ∧ xv ≠ yv) ∨ (xk = yk ∧ xb = yb ∧ xv = yv) by omega) with hne | ⟨rfl, hne⟩ | ⟨rfl, rfl, hne⟩ | ⟨rfl, rfl, rfl⟩
      · have hb0 : (xk == yk) = false := by simpa using hne
        have hb0' : (xk != yk) = true := by simpa using hne
        clear hne
        go_wp2_with fail
        (refine wp_region_up (by kernel_rfl) (by kernel_rfl) ?_; (repeat (go_big_quiet_step (fail))); refine wpQuiet_nil ?_; intro _ hw'; obtain ⟨zq, hw''⟩ := hw'; subst hw'')
        go_wp2_with fail
        go_ret
        exact ⟨by rw [hT.out, upTo_false hlt (by rw [Hat.out]; simp [sameV1, hb0])]; rfl, (.of (by repeat (first | (with_reducible exact Ext.refl _) | (with_reducible refine Ext.up ?_ _) | (with_reducible refine Ext.alloc ?_ _) | (with_reducible refine Ext.drew ?_) | (with_reducible refine Ext.setRow ?_ (by first | exact LeS.le | exact LeS.add _ | (simp; done) | (simp; omega)) _) | (with_reducible refine Ext.setCell ?_ (by first | exact LeS.le | exact LeS.add _ | (simp; done) | (simp; omega)) _))))⟩
      · have hb1 : (xb == yb) = false := by simpa using hne
        have hb1' : (xb != yb) = true := by simpa using hne
        clear hne
        go_wp2_with fail
        (refine wp_region_up (by kernel_rfl) (by kernel_rfl) ?_; (repeat (go_big_quiet_step (fail))); refine wpQuiet_nil ?_; intro _ hw'; obtain ⟨zq, hw''⟩ := hw'; subst hw'')
        go_wp2_with fail
        go_ret
        exact ⟨by rw [hT.out, upTo_false hlt (by rw [Hat.out]; simp [sameV1, hb1])]; rfl, (.of (by repeat (first | (with_reducible exact Ext.refl _) | (with_reducible refine Ext.up ?_ _) | (with_reducible refine Ext.alloc ?_ _) | (with_reducible refine Ext.drew ?_) | (with_reducible refine Ext.setRow ?_ (by first | exact LeS.le | exact LeS.add _ | (simp; done) | (simp; omega)) _) | (with_reducible refine Ext.setCell ?_ (by first | exact LeS.le | exact LeS.add _ | (simp; done) | (simp; omega)) _))))⟩
      · have hb2 : (xv == yv) = false := by simpa using hne
        have hb2' : (xv != yv) = true := by simpa using hne
        clear hne
        go_wp2_with fail
        (refine wp_region_up (by kernel_rfl) (by kernel_rfl) ?_; (repeat (go_big_quiet_step (fail))); refine wpQuiet_nil ?_; intro _ hw'; obtain ⟨zq, hw''⟩ := hw'; subst hw'')
        go_wp2_with fail
        go_ret
        exact ⟨by rw [hT.out, upTo_false hlt (by rw [Hat.out]; simp [sameV1, hb2])]; rfl, (.of (by repeat (first | (with_reducible exact Ext.refl _) | (with_reducible refine Ext.up ?_ _) | (with_reducible refine Ext.alloc ?_ _) | (with_reducible refine Ext.drew ?_) | (with_reducible refine Ext.setRow ?_ (by first | exact LeS.le | exact LeS.add _ | (simp; done) | (simp; omega)) _) | (with_reducible refine Ext.setCell ?_ (by first | exact LeS.le | exact LeS.add _ | (simp; done) | (simp; omega)) _))))⟩
      · go_wp2_with fail
        (refine wp_region_up (by kernel_rfl) (by kernel_rfl) ?_; (repeat (go_big_quiet_step (fail))); refine wpQuiet_nil ?_; intro _ hw'; obtain ⟨zq, hw''⟩ := hw'; subst hw'')
        go_wp2_with fail
        go_roundw
        case rel => exact ⟨k + 1, by go_num, by omega, (.of (by repeat (first | (with_reducible exact Ext.refl _) | (with_reducible refine Ext.up ?_ _) | (with_reducible refine Ext.alloc ?_ _) | (with_reducible refine Ext.drew ?_) | (with_reducible refine Ext.setRow ?_ (by first | exact LeS.le | exact LeS.add _ | (simp; done) | (simp; omega)) _) | (with_reducible refine Ext.setCell ?_ (by first | exact LeS.le | exact LeS.add _ | (simp; done) | (simp; omega)) _)))), upTo_succ HALL.out (by rw [Hat.out]; simp [sameV1])⟩
        case measure => simp [intOf] <;> omega
    · obtain rfl : k = l.length := by omega
      go_wp2_with fail
      go_ret
      exact ⟨by rw [hT.out, HALL.out]; rfl, (.of (by repeat (first | (with_reducible exact Ext.refl _) | (with_reducible refine Ext.up ?_ _) | (with_reducible refine Ext.alloc ?_ _) | (with_reducible refine Ext.drew ?_) | (with_reducible refine Ext.setRow ?_ (by first | exact LeS.le | exact LeS.add _ | (simp; done) | (simp; omega)) _) | (with_reducible refine Ext.setCell ?_ (by first | exact LeS.le | exact LeS.add _ | (simp; done) | (simp; omega)) _))))⟩
set_option maxRecDepth 100000 in
set_option maxHeartbeats 1000000 in
theorem eqInts_any (l m : List Int) (v v' : Value) (w : World) (h : SL (RF encI) 1 w v l) (h' : SL (RF encI) 1 w v' m) :
    Calls Try.prog 48 #[v, v'] w fun e w' => e = .returned (.bool (sameL sameI1 l m)) ∧ Up w w' := by
  obtain ⟨a, cap, rfl, hlen, hc⟩ := h.open
  obtain ⟨a', cap', rfl, _, hc'⟩ := h'.open
  clear h h'
  by_cases hll : l.length = m.length
  rotate_left
  · have hF := Lib.hid (show sameL sameI1 l m = false by unfold sameL; rw [decide_eq_false hll]; rfl)
    have hne : ((l.length : Int) != (m.length : Int)) = true := by rw [bne_iff_ne]; omega
    clear hll
    go_enter Try.func48, Try.ntmps48
    go_wp2_with fail
    go_ret
    exact ⟨by rw [hF.out]; rfl, (.of (by repeat (first | (with_reducible exact Ext.refl _) | (with_reducible refine Ext.up ?_ _) | (with_reducible refine Ext.alloc ?_ _) | (with_reducible refine Ext.drew ?_) | (with_reducible refine Ext.setRow ?_ (by first | exact LeS.le | exact LeS.add _ | (simp; done) | (simp; omega)) _) | (with_reducible refine Ext.setCell ?_ (by first | exact LeS.le | exact LeS.add _ | (simp; done) | (simp; omega)) _))))⟩
  have hT := Lib.hid (show sameL sameI1 l m = upTo (sameAt sameI1 l m) l.length by unfold sameL; rw [decide_eq_true hll, Bool.true_and])
  rw [← hll]
  have HLL := Lib.hid hll; clear hll
  go_enter Try.func48, Try.ntmps48
  go_wp2_with fail
  go_loopw [5, 13] (fun _ s13 wr => ∃ (k : Nat), s13 = .int .i64 k ∧ k ≤ l.length ∧ Up w wr ∧ upTo (sameAt sameI1 l m) k = true) (fun _ s13 _ => l.length - (intOf s13).toNat)
  case atStart => exact ⟨0, rfl, Nat.zero_le _, .of (Ext.refl _), rfl⟩
  case round =>
    obtain ⟨k, rfl, hk, ⟨z, rfl⟩, hall⟩ := hrel
    have HALL := Lib.hid hall; clear hall
    by_cases hlt : k < l.length
    · obtain ⟨x, hxk⟩ := getElem?_some_of_lt hlt
      obtain ⟨y, hyk⟩ := getElem?_some_of_lt (l := m) (k := k) (by rw [← HLL.out]; exact hlt)
      obtain ⟨b, off, rfl, hb, hcc⟩ := hc k x hxk
      obtain ⟨b2, off2, rfl, hb2, hdd⟩ := hc' k y hyk
      have Hat := Lib.hid (sameAt_eq (same := sameI1) hxk hyk)
      obtain ⟨xk, rfl⟩ : ∃ t, t = x := ⟨x, rfl⟩; obtain ⟨yk, rfl⟩ : ∃ t, t = y := ⟨y, rfl⟩
      have c0 : w.cell? ⟨b, off + k, none⟩ = some (.int .i64 xk) := by have := hcc 0 _ rfl; simpa using this
      have d0 : w.cell? ⟨b2, off2 + k, none⟩ = some (.int .i64 yk) := by have := hdd 0 _ rfl; simpa using this
      have k0 : (0 : Int) ≤ (k : Int) := by omega
      have k1 : (k : Int) < l.length := by omega
      clear hc hcc hc' hdd hxk hyk
      rcases (show (xk ≠ yk) ∨ (xk = yk) by omega) with hne | rfl
      · have hb0 : (xk == yk) = false := by simpa using hne
        have hb0' : (xk != yk) = true := by simpa using hne
        clear hne
        go_wp2_with fail
        (refine wp_region_up (by kernel_rfl) (by kernel_rfl) ?_; (repeat (go_big_quiet_step (fail))); refine wpQuiet_nil ?_; intro _ hw'; obtain ⟨zq, hw''⟩ := hw'; subst hw'')
        go_wp2_with fail
        go_ret
        exact ⟨by rw [hT.out, upTo_false hlt (by rw [Hat.out]; simp [sameI1, hb0])]; rfl, (.of (by repeat (first | (with_reducible exact Ext.refl _) | (with_reducible refine Ext.up ?_ _) | (with_reducible refine Ext.alloc ?_ _) | (with_reducible refine Ext.drew ?_) | (with_reducible refine Ext.setRow ?_ (by first | exact LeS.le | exact LeS.add _ | (simp; done) | (simp; omega)) _) | (with_reducible refine Ext.setCell ?_ (by first | exact LeS.le | exact LeS.add _ | (simp; done) | (simp; omega)) _))))⟩
      · go_wp2_with fail
        (refine wp_region_up (by kernel_rfl) (by kernel_rfl) ?_; (repeat (go_big_quiet_step (fail))); refine wpQuiet_nil ?_; intro _ hw'; obtain ⟨zq, hw''⟩ := hw'; subst hw'')
        go_wp2_with fail
        go_roundw
        case rel => exact ⟨k + 1, by go_num, by omega, (.of (by repeat (first | (with_reducible exact Ext.refl _) | (with_reducible refine Ext.up ?_ _) | (with_reducible refine Ext.alloc ?_ _) | (with_reducible refine Ext.drew ?_) | (with_reducible refine Ext.setRow ?_ (by first | exact LeS.le | exact LeS.add _ | (simp; done) | (simp; omega)) _) | (with_reducible refine Ext.setCell ?_ (by first | exact LeS.le | exact LeS.add _ | (simp; done) | (simp; omega)) _)))), upTo_succ HALL.out (by rw [Hat.out]; simp [sameI1])⟩
        case measure => simp [intOf] <;> omega
    · obtain rfl : k = l.length := by omega
      go_wp2_with fail
      go_ret
      exact ⟨by rw [hT.out, HALL.out]; rfl, (.of (by repeat (first | (with_reducible exact Ext.refl _) | (with_reducible refine Ext.up ?_ _) | (with_reducible refine Ext.alloc ?_ _) | (with_reducible refine Ext.drew ?_) | (with_reducible refine Ext.setRow ?_ (by first | exact LeS.le | exact LeS.add _ | (simp; done) | (simp; omega)) _) | (with_reducible refine Ext.setCell ?_ (by first | exact LeS.le | exact LeS.add _ | (simp; done) | (simp; omega)) _))))⟩
end Go.Proofs.Ytnknamddonjnjaa
namespace Go.Proofs.Ytnknamddonjnjaa
open Go Go.RowKit Go.Proofs

def verOrd (x y : Ver) : Int := or2 (x.k - y.k) (x.b - y.b)
def verIn (x : Ver) : Bool := inR x.k 0 31 && (inR x.b 0 9 && inR x.v 0 1000000)
def verLt (x y : Ver) : Bool := decide (verOrd x y < 0)
def verAt (l : List Ver) (i : Nat) : Bool := match l[i]? with
  | none => true
  | some x => verIn x && (decide (i = 0) || match l[i - 1]? with | none => true | some y => verLt y x)
theorem verAt_in {l : List Ver} {i : Nat} {x : Ver} (h : l[i]? = some x) (hf : verIn x = false) : verAt l i = false := by simp [verAt, h, hf]
theorem verAt_first {l : List Ver} {i : Nat} {x : Ver} (h : l[i]? = some x) (hi : ¬ 0 < i) : verAt l i = verIn x := by
  obtain rfl : i = 0 := by omega
  simp [verAt, h]
theorem verAt_next {l : List Ver} {i : Nat} {x y : Ver} (h : l[i]? = some x) (hi : 0 < i) (hy : l[i - 1]? = some y) : verAt l i = (verIn x && verLt y x) := by
  have : i ≠ 0 := by omega
  simp [verAt, h, hy, this]
def versOk (l : List Ver) : Bool := upTo (verAt l) l.length

theorem verLt_iff (x y : Ver) : verLt x y = true ↔ (x.k < y.k ∨ (x.k = y.k ∧ x.b < y.b)) := by
  unfold verLt verOrd or2
  rw [decide_eq_true_iff]
  by_cases h : x.k - y.k = 0
  · rw [if_pos h]; omega
  · rw [if_neg h]; omega
theorem verLt_not {x y : Ver} (h : ¬ (x.k < y.k ∨ (x.k = y.k ∧ x.b < y.b))) : verLt x y = false := by
  rw [← verLt_iff] at h; simpa using h

end Go.Proofs.Ytnknamddonjnjaa
namespace Go.Proofs.Ytnknamddonjnjaa
open Go Go.RowKit Go.Proofs

def dropV (l : List Ver) (by_ : Int) : List Ver := l.filter fun x => decide (x.b ≠ by_)
theorem dropV_le (l : List Ver) (b : Int) : (dropV l b).length ≤ l.length := List.length_filter_le _ _
theorem dropV_snoc_in {l : List Ver} {k : Nat} {x : Ver} {b : Int} (h : l[k]? = some x) (hb : x.b ≠ b) : dropV (l.take (k + 1)) b = dropV (l.take k) b ++ [x] := by
  rw [List.take_add_one, h]; simp [dropV, hb]
theorem dropV_snoc_out {l : List Ver} {k : Nat} {x : Ver} {b : Int} (h : l[k]? = some x) (hb : x.b = b) : dropV (l.take (k + 1)) b = dropV (l.take k) b := by
  rw [List.take_add_one, h]; simp [dropV, hb]

set_option maxHeartbeats 1000000 in
theorem without_any (l : List Ver) (v : Value) (by_ : Int) (w : World) (h : SL (RF Ver.enc) 3 w v l) (hn : l.length ≤ 1073741824) :
    Calls Try.prog 44 #[v, .int .i64 by_] w fun e w' => ∃ v', e = .returned v' ∧ Up w w' ∧ Own Ver.enc 32 3 w.heap.size w' v' (dropV l by_) := by
  obtain ⟨a, cap, rfl, hlen, hc⟩ := h.open
  clear h
  go_enter Try.func44, Try.ntmps44
  go_wp2_with fail
  go_loopw [5, 7, 10] (fun s5 _ s10 wr => ∃ (k : Nat), s10 = .int .i64 k ∧ k ≤ l.length ∧ Up w wr ∧ Own Ver.enc 32 3 w.heap.size wr s5 (dropV (l.take k) by_)) (fun _ _ s10 _ => l.length - (intOf s10).toNat)
  case atStart => exact ⟨0, rfl, Nat.zero_le _, .of (Ext.refl _), Own.nil _ _ _ _ _⟩
  case round =>
    obtain ⟨k, rfl, hk, ⟨z, rfl⟩, hown⟩ := hrel
    by_cases hlt : k < l.length
    · obtain ⟨x, hxk⟩ := getElem?_some_of_lt hlt
      obtain ⟨b, off, rfl, hb, hcc⟩ := hc k x hxk
      have c0 : w.cell? ⟨b, off + k * 3, none⟩ = some (.int .i64 x.k) := hcc 0 _ rfl
      have c1 : w.cell? ⟨b, off + k * 3 + 1, none⟩ = some (.int .i64 x.b) := hcc 1 _ rfl
      have c2 : w.cell? ⟨b, off + k * 3 + 2, none⟩ = some (.int .i64 x.v) := hcc 2 _ rfl
      have hle : (dropV (l.take k) by_).length ≤ k := Nat.le_trans (dropV_le _ _) (List.length_take_le _ _)
      have Hx := Lib.hid hxk; have Hown := Lib.hid hown
      clear hc hcc hxk hown
      rcases ne_cases x.b by_ with ⟨h1, h1'⟩ | ⟨h1, h1'⟩
      · go_wp2_with (at_builtin; refine wpList_push1 fVer rfl (.tmp 18) (.tmp 20) rfl Ver.enc w x (dropV (l.take k) by_) rfl (Hown.out.up (by repeat (first | exact Ext.refl _ | refine Ext.up ?_ _ | refine Ext.alloc ?_ _ | refine Ext.drew ?_ | refine Ext.setRow ?_ (by first | (dsimp only; omega) | exact LeS.le | exact LeS.add _ | (simp; done) | (simp; omega)) _ | refine Ext.setCell ?_ (by first | (dsimp only; omega) | exact LeS.le | exact LeS.add _ | (simp; done) | (simp; omega)) _))) (by repeat (first | exact Ext.refl _ | refine Ext.up ?_ _ | refine Ext.alloc ?_ _ | refine Ext.drew ?_ | refine Ext.setRow ?_ (by first | (dsimp only; omega) | exact LeS.le | exact LeS.add _ | (simp; done) | (simp; omega)) _ | refine Ext.setCell ?_ (by first | (dsimp only; omega) | exact LeS.le | exact LeS.add _ | (simp; done) | (simp; omega)) _)) rfl (by go_simp) rfl rfl (oneV x) (by omega) (by omega) ?_; intro v1 z1 hown1)
        have hown2 := Lib.hid hown1; clear hown1
        go_wp2_with fail
        go_roundw
        case rel => exact ⟨k + 1, by go_num, by omega, (.of (by repeat (first | exact Ext.refl _ | refine Ext.up ?_ _ | refine Ext.alloc ?_ _ | refine Ext.drew ?_ | refine Ext.setRow ?_ (by first | (dsimp only; omega) | exact LeS.le | exact LeS.add _ | (simp; done) | (simp; omega)) _ | refine Ext.setCell ?_ (by first | (dsimp only; omega) | exact LeS.le | exact LeS.add _ | (simp; done) | (simp; omega)) _))), by rw [dropV_snoc_in Hx.out h1]; exact hown2.out⟩
        case measure => simp [intOf]; omega
      · have H1 := Lib.hid h1; clear h1
        go_wp2_with fail
        go_roundw
        case rel => exact ⟨k + 1, by go_num, by omega, (.of (by repeat (first | exact Ext.refl _ | refine Ext.up ?_ _ | refine Ext.alloc ?_ _ | refine Ext.drew ?_ | refine Ext.setRow ?_ (by first | (dsimp only; omega) | exact LeS.le | exact LeS.add _ | (simp; done) | (simp; omega)) _ | refine Ext.setCell ?_ (by first | (dsimp only; omega) | exact LeS.le | exact LeS.add _ | (simp; done) | (simp; omega)) _))), by rw [dropV_snoc_out Hx.out H1.out]; exact Hown.out.up (by repeat (first | exact Ext.refl _ | refine Ext.up ?_ _ | refine Ext.alloc ?_ _ | refine Ext.drew ?_ | refine Ext.setRow ?_ (by first | (dsimp only; omega) | exact LeS.le | exact LeS.add _ | (simp; done) | (simp; omega)) _ | refine Ext.setCell ?_ (by first | (dsimp only; omega) | exact LeS.le | exact LeS.add _ | (simp; done) | (simp; omega)) _))⟩
        case measure => simp [intOf]; omega
    · go_wp2_with fail
      go_ret
      obtain rfl : k = l.length := by omega
      refine ⟨_, rfl, ⟨z, rfl⟩, ?_⟩
      rw [List.take_length] at hown
      exact hown
/-- What is left without those of an action; nothing of versions that are not valid. -/
def dropR (l : List Ver) (b : Int) : List Ver := if versOk l = true then dropV l b else []
theorem dropR_le (l : List Ver) (b : Int) : (dropR l b).length ≤ l.length := by unfold dropR; split; exact dropV_le l b; simp
set_option maxHeartbeats 1000000 in
theorem l9Drop_any (l : List Ver) (v : Value) (by_ : Int) (w : World) (h : SL (RF Ver.enc) 3 w v l) (hn : l.length ≤ 1073741824) :
    Calls Try.prog 54 #[v, .int .i64 by_] w fun e w' => ∃ v', e = .returned v' ∧ Up w w' ∧ Own Ver.enc 32 3 w.heap.size w' v' (dropV l by_) := by
  obtain ⟨a, cap, rfl, hlen, hc⟩ := h.open
  clear h
  go_enter Try.func54, Try.ntmps54
  go_wp2_with fail
  go_loopw [5, 6] (fun s5 s6 wr => ∃ (k : Nat), s6 = .int .i64 k ∧ k ≤ l.length ∧ Up w wr ∧ Own Ver.enc 32 3 w.heap.size wr s5 (dropV (l.take k) by_)) (fun _ s6 _ => l.length - (intOf s6).toNat)
  case atStart => exact ⟨0, rfl, Nat.zero_le _, (.of (by repeat (first | exact Ext.refl _ | refine Ext.up ?_ _ | refine Ext.alloc ?_ _ | refine Ext.drew ?_ | refine Ext.setRow ?_ (by first | (dsimp only; omega) | exact LeS.le | exact LeS.add _ | (simp; done) | (simp; omega)) _ | refine Ext.setCell ?_ (by first | (dsimp only; omega) | exact LeS.le | exact LeS.add _ | (simp; done) | (simp; omega)) _))), Own.lit (by simp) (by simp) rfl rfl Ver.enc_length (by simp [dropV])⟩
  case round =>
    obtain ⟨k, rfl, hk, ⟨z, rfl⟩, hown⟩ := hrel
    by_cases hlt : k < l.length
    · obtain ⟨x, hxk⟩ := getElem?_some_of_lt hlt
      obtain ⟨b, off, rfl, hb, hcc⟩ := hc k x hxk
      have c0 : w.cell? ⟨b, off + k * 3, none⟩ = some (.int .i64 x.k) := hcc 0 _ rfl
      have c1 : w.cell? ⟨b, off + k * 3 + 1, none⟩ = some (.int .i64 x.b) := hcc 1 _ rfl
      have c2 : w.cell? ⟨b, off + k * 3 + 2, none⟩ = some (.int .i64 x.v) := hcc 2 _ rfl
      have hle : (dropV (l.take k) by_).length ≤ k := Nat.le_trans (dropV_le _ _) (List.length_take_le _ _)
      have Hx := Lib.hid hxk; have Hown := Lib.hid hown
      clear hc hcc hxk hown
      rcases ne_cases x.b by_ with ⟨h1, h1'⟩ | ⟨h1, h1'⟩
      · go_wp2_with (at_builtin; refine wpList_push1 fVer rfl (.tmp 21) (.tmp 26) rfl Ver.enc w x (dropV (l.take k) by_) rfl (Hown.out.up (by repeat (first | exact Ext.refl _ | refine Ext.up ?_ _ | refine Ext.alloc ?_ _ | refine Ext.drew ?_ | refine Ext.setRow ?_ (by first | (dsimp only; omega) | exact LeS.le | exact LeS.add _ | (simp; done) | (simp; omega)) _ | refine Ext.setCell ?_ (by first | (dsimp only; omega) | exact LeS.le | exact LeS.add _ | (simp; done) | (simp; omega)) _))) (by repeat (first | exact Ext.refl _ | refine Ext.up ?_ _ | refine Ext.alloc ?_ _ | refine Ext.drew ?_ | refine Ext.setRow ?_ (by first | (dsimp only; omega) | exact LeS.le | exact LeS.add _ | (simp; done) | (simp; omega)) _ | refine Ext.setCell ?_ (by first | (dsimp only; omega) | exact LeS.le | exact LeS.add _ | (simp; done) | (simp; omega)) _)) rfl (by go_simp) rfl rfl (oneV x) (by omega) (by omega) ?_; intro v1 z1 hown1)
        have hown2 := Lib.hid hown1; clear hown1
        go_wp2_with fail
        go_roundw
        case rel => exact ⟨k + 1, by go_num, by omega, (.of (by repeat (first | exact Ext.refl _ | refine Ext.up ?_ _ | refine Ext.alloc ?_ _ | refine Ext.drew ?_ | refine Ext.setRow ?_ (by first | (dsimp only; omega) | exact LeS.le | exact LeS.add _ | (simp; done) | (simp; omega)) _ | refine Ext.setCell ?_ (by first | (dsimp only; omega) | exact LeS.le | exact LeS.add _ | (simp; done) | (simp; omega)) _))), by rw [dropV_snoc_in Hx.out h1]; exact hown2.out⟩
        case measure => simp [intOf]; omega
      · have H1 := Lib.hid h1; clear h1
        go_wp2_with fail
        go_roundw
        case rel => exact ⟨k + 1, by go_num, by omega, (.of (by repeat (first | exact Ext.refl _ | refine Ext.up ?_ _ | refine Ext.alloc ?_ _ | refine Ext.drew ?_ | refine Ext.setRow ?_ (by first | (dsimp only; omega) | exact LeS.le | exact LeS.add _ | (simp; done) | (simp; omega)) _ | refine Ext.setCell ?_ (by first | (dsimp only; omega) | exact LeS.le | exact LeS.add _ | (simp; done) | (simp; omega)) _))), by rw [dropV_snoc_out Hx.out H1.out]; exact Hown.out.up (by repeat (first | exact Ext.refl _ | refine Ext.up ?_ _ | refine Ext.alloc ?_ _ | refine Ext.drew ?_ | refine Ext.setRow ?_ (by first | (dsimp only; omega) | exact LeS.le | exact LeS.add _ | (simp; done) | (simp; omega)) _ | refine Ext.setCell ?_ (by first | (dsimp only; omega) | exact LeS.le | exact LeS.add _ | (simp; done) | (simp; omega)) _))⟩
        case measure => simp [intOf]; omega
    · go_wp2_with fail
      go_ret
      obtain rfl : k = l.length := by omega
      refine ⟨_, rfl, ⟨z, rfl⟩, ?_⟩
      rw [List.take_length] at hown
      exact hown
end Go.Proofs.Ytnknamddonjnjaa
namespace Go.Proofs.Ytnknamddonjnjaa
open Go Go.RowKit

def mkV (by_ : Int) (e : Ent) : Ver := ⟨e.k, by_, e.v⟩
def insV (x : Ver) (l : List Ver) : List Ver := l.takeWhile (fun y => verLt y x) ++ x :: l.dropWhile (fun y => verLt y x)
def putTo (by_ : Int) (out : List Ver) (u : List Ent) : List Ver := u.foldl (fun o e => insV (mkV by_ e) o) out
def putV (l : List Ver) (by_ : Int) (u : List Ent) : List Ver := putTo by_ (dropV l by_) u
theorem insV_length (x : Ver) (l : List Ver) : (insV x l).length = l.length + 1 := by
  have := congrArg List.length (List.takeWhile_append_dropWhile (p := fun y => verLt y x) (l := l))
  simp only [List.length_append] at this
  simp [insV]; omega
theorem putTo_length (by_ : Int) : ∀ (u : List Ent) (out : List Ver), (putTo by_ out u).length = out.length + u.length
  | [], out => by simp [putTo]
  | e :: u, out => by
    have := putTo_length by_ u (insV (mkV by_ e) out)
    rw [insV_length] at this
    simp only [putTo, List.foldl_cons, List.length_cons] at *; omega
theorem putTo_snoc (by_ : Int) (out : List Ver) {u : List Ent} {k : Nat} {e : Ent} (h : u[k]? = some e) : putTo by_ out (u.take (k + 1)) = insV (mkV by_ e) (putTo by_ out (u.take k)) := by
  rw [List.take_add_one, h]; simp [putTo]
theorem insV_perm (x : Ver) (l : List Ver) : (insV x l).Perm (x :: l) := by
  unfold insV
  refine List.perm_middle.trans (List.Perm.cons x ?_)
  rw [List.takeWhile_append_dropWhile]
theorem verLt_trans {x y z : Ver} (h : verLt x y = true) (h' : verLt y z = true) : verLt x z = true := by rw [verLt_iff] at *; omega
theorem verLt_or {x y : Ver} (h : x.k ≠ y.k ∨ x.b ≠ y.b) : verLt x y = true ∨ verLt y x = true := by rw [verLt_iff, verLt_iff]; omega
theorem insV_sorted {x : Ver} {l : List Ver} (h : l.Pairwise fun a b => verLt a b = true) (hd : ∀ y ∈ l, verLt y x = true ∨ verLt x y = true) : (insV x l).Pairwise fun a b => verLt a b = true := by
  induction l with
  | nil => simp [insV]
  | cons y l ih =>
    rw [List.pairwise_cons] at h
    unfold insV
    rcases hy : verLt y x with _ | _
    · have hxy : verLt x y = true := by rcases hd y (by simp) with h1 | h1; rw [hy] at h1; cases h1; exact h1
      simp only [List.takeWhile_cons, List.dropWhile_cons, hy, Bool.false_eq_true, if_false, List.nil_append, List.pairwise_cons]
      refine ⟨fun z hz => ?_, h⟩
      rcases List.mem_cons.1 hz with rfl | hz
      · exact hxy
      · exact verLt_trans hxy (h.1 z hz)
    · simp only [List.takeWhile_cons, List.dropWhile_cons, hy, if_true, List.cons_append, List.pairwise_cons]
      refine ⟨fun z hz => ?_, ih h.2 fun y hy => hd y (by simp [hy])⟩
      have : z ∈ x :: l := (insV_perm x l).mem_iff.1 hz
      rcases List.mem_cons.1 this with rfl | hz'
      · exact hy
      · exact h.1 z hz'
theorem putTo_perm (by_ : Int) : ∀ (u : List Ent) (out : List Ver), (putTo by_ out u).Perm (out ++ u.map (mkV by_))
  | [], out => by simp [putTo]
  | e :: u, out => by
    have ih := putTo_perm by_ u (insV (mkV by_ e) out)
    show (putTo by_ (insV (mkV by_ e) out) u).Perm _
    refine ih.trans ?_
    rw [List.map_cons]
    refine ((insV_perm _ _).append_right _).trans ?_
    exact List.perm_middle.symm
theorem putTo_sorted (by_ : Int) : ∀ (u : List Ent) (out : List Ver), out.Pairwise (fun a b => verLt a b = true) → (∀ y ∈ out, ∀ e ∈ u, y.k ≠ e.k ∨ y.b ≠ by_) → u.Pairwise (fun a b => a.k < b.k) → (putTo by_ out u).Pairwise fun a b => verLt a b = true
  | [], out, h, _, _ => h
  | e :: u, out, h, hd, hu => by
    rw [List.pairwise_cons] at hu
    refine putTo_sorted by_ u (insV (mkV by_ e) out) (insV_sorted h fun y hy => verLt_or (hd y hy e (by simp))) (fun y hy e' he' => ?_) hu.2
    have : y ∈ mkV by_ e :: out := (insV_perm _ _).mem_iff.1 hy
    rcases List.mem_cons.1 this with rfl | hy'
    · left; have := hu.1 e' he'; show e.k ≠ e'.k; omega
    · exact hd y hy' e' (by simp [he'])
theorem vers_sorted {l : List Ver} (h : versOk l = true) : l.Pairwise fun a b => verLt a b = true := by
  have key : ∀ n (i : Nat) x y, l[i]? = some x → l[i + (n + 1)]? = some y → verLt x y = true := by
    intro n
    induction n with
    | zero =>
      intro i x y hx hy
      have := upTo_iff.1 h _ (List.getElem?_eq_some_iff.1 hy).1
      rw [verAt_next hy (by omega) (by simpa using hx), Bool.and_eq_true] at this
      exact this.2
    | succ n ih =>
      intro i x y hx hy
      have hlt := (List.getElem?_eq_some_iff.1 hy).1
      obtain ⟨z, hz⟩ := getElem?_some_of_lt (show i + (n + 1) < l.length by omega)
      have h1 := ih i x z hx hz
      have := upTo_iff.1 h _ hlt
      rw [verAt_next hy (by omega) (by simpa using hz), Bool.and_eq_true] at this
      exact verLt_trans h1 this.2
  rw [List.pairwise_iff_getElem]
  intro i j hi hj hij
  exact key (j - i - 1) i l[i] l[j] (by simp) (by rw [show i + (j - i - 1 + 1) = j from by omega]; simp)
theorem versOk_mem {l : List Ver} (h : versOk l = true) {x : Ver} (hx : x ∈ l) : verIn x = true := by
  obtain ⟨i, hi⟩ := List.getElem?_of_mem hx
  have := upTo_iff.1 h i (List.getElem?_eq_some_iff.1 hi).1
  simp only [verAt, hi, Bool.and_eq_true] at this
  exact this.1
theorem dropV_sorted {l : List Ver} (h : l.Pairwise fun a b => verLt a b = true) (b : Int) : (dropV l b).Pairwise fun a b => verLt a b = true := h.filter _
theorem dropV_ne {l : List Ver} {b : Int} {x : Ver} (h : x ∈ dropV l b) : x ∈ l ∧ x.b ≠ b := by simpa [dropV] using h
theorem putV_sorted {l : List Ver} {by_ : Int} {u : List Ent} (h : l.Pairwise fun a b => verLt a b = true) (hu : u.Pairwise fun a b => a.k < b.k) : (putV l by_ u).Pairwise fun a b => verLt a b = true :=
  putTo_sorted by_ u _ (dropV_sorted h by_) (fun _ hy _ _ => .inr (dropV_ne hy).2) hu
/-- What is sorted and has the same versions is the same. -/
theorem putV_unique {l : List Ver} {by_ : Int} {u : List Ent} {m : List Ver} (h : l.Pairwise fun a b => verLt a b = true) (hu : u.Pairwise fun a b => a.k < b.k)
    (hp : m.Perm (dropV l by_ ++ u.map (mkV by_))) (hs : m.Pairwise fun a b => verLt b a = false) : m = putV l by_ u := by
  have hq : (putV l by_ u).Perm (dropV l by_ ++ u.map (mkV by_)) := putTo_perm by_ u _
  have hsrt := putV_sorted (by_ := by_) h hu
  have hw : (putV l by_ u).Pairwise fun a b => verLt b a = false := hsrt.imp fun {a b} hab => by
    rcases hba : verLt b a with _ | _
    · rfl
    · rw [verLt_iff] at hab hba; omega
  refine List.Perm.eq_of_pairwise (le := fun a b => verLt b a = false) (fun a b ha hb h1 h2 => ?_) hs hw (hp.trans hq.symm)
  have hb' : a ∈ putV l by_ u := (hp.trans hq.symm).mem_iff.1 ha
  obtain ⟨i, hi⟩ := List.getElem?_of_mem hb'
  obtain ⟨j, hj⟩ := List.getElem?_of_mem hb
  by_cases hij : i = j
  · subst hij; rw [hi] at hj; cases hj; rfl
  · exfalso
    obtain ⟨hi1, hi2⟩ := List.getElem?_eq_some_iff.1 hi
    obtain ⟨hj1, hj2⟩ := List.getElem?_eq_some_iff.1 hj
    rw [List.pairwise_iff_getElem] at hsrt
    rcases Nat.lt_or_gt_of_ne hij with h3 | h3
    · have := hsrt i j hi1 hj1 h3; rw [hi2, hj2, h2] at this; cases this
    · have := hsrt j i hj1 hi1 h3; rw [hi2, hj2, h1] at this; cases this
def putOk (l : List Ver) (by_ : Int) (u : List Ent) : Bool := versOk l && (inR by_ 0 9 && entsOk 0 u)
def putR (l : List Ver) (by_ : Int) (u : List Ent) : List Ver := if putOk l by_ u = true then putV l by_ u else []
theorem putR_no {l : List Ver} {by_ : Int} {u : List Ent} (h : putOk l by_ u = false) : putR l by_ u = [] := by unfold putR; rw [h]; rfl
theorem putR_yes {l : List Ver} {by_ : Int} {u : List Ent} (h : putOk l by_ u = true) : putR l by_ u = putV l by_ u := by unfold putR; rw [h]; rfl
theorem putV_le (l : List Ver) (by_ : Int) (u : List Ent) : (putV l by_ u).length ≤ l.length + u.length := by
  unfold putV; rw [putTo_length]; have := dropV_le l by_; omega
theorem putR_le (l : List Ver) (by_ : Int) (u : List Ent) : (putR l by_ u).length ≤ l.length + u.length := by
  unfold putR; split; exact putV_le l by_ u; simp
end Go.Proofs.Ytnknamddonjnjaa
namespace Go.Proofs.Ytnknamddonjnjaa
open Go Go.RowKit
theorem wrap_i64_nat (n : Nat) (h : n < 9223372036854775808) : IntKind.i64.wrap (n : Int) = n := IntWalk.i64_in _ ⟨by omega, by omega⟩
theorem ofInt_i64n (a : Nat) (ha : a < 9223372036854775808) : (BitVec.ofInt 64 (a : Int)).toNat = a := by
  rw [BitVec.ofInt_natCast, BitVec.toNat_ofNat]; exact Nat.mod_eq_of_lt (by omega)
theorem i64_or_nat (a b : Nat) (ha : a < 9223372036854775808) (hb : b < 9223372036854775808) : bits .or .i64 (a : Int) (b : Int) = ((a ||| b : Nat) : Int) := by
  have h : a ||| b < 2 ^ 63 := Nat.or_lt_two_pow (n := 63) (by omega) (by omega)
  show IntKind.i64.wrap ((BitVec.ofInt 64 (a : Int) ||| BitVec.ofInt 64 (b : Int)).toNat : Int) = _
  rw [BitVec.toNat_or, ofInt_i64n a ha, ofInt_i64n b hb]
  exact wrap_i64_nat _ (by omega)
theorem i64_and_nat (a b : Nat) (ha : a < 9223372036854775808) (hb : b < 9223372036854775808) : bits .and .i64 (a : Int) (b : Int) = ((a &&& b : Nat) : Int) := by
  have h : a &&& b < 2 ^ 63 := Nat.and_lt_two_pow (n := 63) _ (by omega)
  show IntKind.i64.wrap ((BitVec.ofInt 64 (a : Int) &&& BitVec.ofInt 64 (b : Int)).toNat : Int) = _
  rw [BitVec.toNat_and, ofInt_i64n a ha, ofInt_i64n b hb]
  exact wrap_i64_nat _ (by omega)
theorem i64_xor_nat (a b : Nat) (ha : a < 9223372036854775808) (hb : b < 9223372036854775808) : bits .xor .i64 (a : Int) (b : Int) = ((a ^^^ b : Nat) : Int) := by
  have h : a ^^^ b < 2 ^ 63 := Nat.xor_lt_two_pow (n := 63) (by omega) (by omega)
  show IntKind.i64.wrap ((BitVec.ofInt 64 (a : Int) ^^^ BitVec.ofInt 64 (b : Int)).toNat : Int) = _
  rw [BitVec.toNat_xor, ofInt_i64n a ha, ofInt_i64n b hb]
  exact wrap_i64_nat _ (by omega)
end Go.Proofs.Ytnknamddonjnjaa
