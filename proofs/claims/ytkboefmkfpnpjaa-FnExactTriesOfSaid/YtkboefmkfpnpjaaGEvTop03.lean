/- Walks: slices.Equal at entries, versions and numbers. Walks: versions. -/
import Derived.Test.YtkboefmkfpnpjaaGEvTop01
import Derived.Test.YtkboefmkfpnpjaaGEvTop02
import Derived.Test.YtkboefmkfpnpjaaProg
set_option linter.unusedSimpArgs false
set_option linter.unusedVariables false
namespace Go.Proofs.Ytkboefmkfpnpjaa
open Go Go.RowKit Go.Proofs

/-- Equal element by element. -/
def sameAt {α : Type} (same : α → α → Bool) (a b : List α) (i : Nat) : Bool := match a[i]?, b[i]? with
  | some x, some y => same x y
  | _, _ => true
def sameL {α : Type} (same : α → α → Bool) (a b : List α) : Bool := decide (a.length = b.length) && upTo (sameAt same a b) a.length
theorem sameAt_eq {α : Type} {same : α → α → Bool} {a b : List α} {i : Nat} {x y : α} (hx : a[i]? = some x) (hy : b[i]? = some y) : sameAt same a b i = same x y := by simp [sameAt, hx, hy]
theorem sameL_iff {α : Type} {same : α → α → Bool} (hs : ∀ x y, same x y = true ↔ x = y) {a b : List α} : sameL same a b = true ↔ a = b := by
  unfold sameL
  rw [Bool.and_eq_true, decide_eq_true_eq, upTo_iff]
  constructor
  · rintro ⟨h1, h2⟩
    apply List.ext_getElem?
    intro i
    by_cases hi : i < a.length
    · obtain ⟨x, hx⟩ := getElem?_some_of_lt hi
      obtain ⟨y, hy⟩ := getElem?_some_of_lt (l := b) (k := i) (by omega)
      have := h2 i hi
      rw [sameAt_eq hx hy, hs] at this
      rw [hx, hy, this]
    · rw [List.getElem?_eq_none (by omega), List.getElem?_eq_none (by omega)]
  · rintro rfl
    refine ⟨rfl, fun i hi => ?_⟩
    obtain ⟨x, hx⟩ := getElem?_some_of_lt hi
    rw [sameAt_eq hx hx, hs]
theorem sameL_refl {α : Type} {same : α → α → Bool} (hs : ∀ x y, same x y = true ↔ x = y) (a : List α) : sameL same a a = true := (sameL_iff hs).2 rfl
def sameE1 (x y : Ent) : Bool := (x.k == y.k) && (x.v == y.v)
def sameV1 (x y : Ver) : Bool := (x.k == y.k) && ((x.b == y.b) && (x.v == y.v))
def sameI1 (x y : Int) : Bool := x == y
theorem sameE1_iff (x y : Ent) : sameE1 x y = true ↔ x = y := by
  obtain ⟨a, b⟩ := x; obtain ⟨c, d⟩ := y; simp [sameE1]
theorem sameV1_iff (x y : Ver) : sameV1 x y = true ↔ x = y := by
  obtain ⟨a, b, e⟩ := x; obtain ⟨c, d, f⟩ := y; simp [sameV1]
theorem sameI1_iff (x y : Int) : sameI1 x y = true ↔ x = y := by simp [sameI1]
set_option maxRecDepth 100000 in
set_option maxHeartbeats 1000000 in
theorem eqEnts_any (l m : List Ent) (v v' : Value) (w : World) (h : SL (RF Ent.enc) 2 w v l) (h' : SL (RF Ent.enc) 2 w v' m) :
    Calls Try.prog 189 #[v, v'] w fun e w' => e = .returned (.bool (sameL sameE1 l m)) ∧ Up w w' := by
  obtain ⟨a, cap, rfl, hlen, hc⟩ := h.open
  obtain ⟨a', cap', rfl, _, hc'⟩ := h'.open
  clear h h'
  by_cases hll : l.length = m.length
  rotate_left
  · have hF := Lib.hid (show sameL sameE1 l m = false by unfold sameL; rw [decide_eq_false hll]; rfl)
    have hne : ((l.length : Int) != (m.length : Int)) = true := by rw [bne_iff_ne]; omega
    clear hll
    go_enter Try.func189, Try.ntmps189
    go_wp2_with fail
    go_ret
    exact ⟨by rw [hF.out]; rfl, (.of (by repeat (first | (with_reducible exact Ext.refl _) | (with_reducible refine Ext.up ?_ _) | (with_reducible refine Ext.alloc ?_ _) | (with_reducible refine Ext.drew ?_) | (with_reducible refine Ext.setRow ?_ (by first | exact LeS.le | exact LeS.add _ | (simp; done) | (simp; omega)) _) | (with_reducible refine Ext.setCell ?_ (by first | exact LeS.le | exact LeS.add _ | (simp; done) | (simp; omega)) _))))⟩
  have hT := Lib.hid (show sameL sameE1 l m = upTo (sameAt sameE1 l m) l.length by unfold sameL; rw [decide_eq_true hll, Bool.true_and])
  rw [← hll]
  have HLL := Lib.hid hll; clear hll
  go_enter Try.func189, Try.ntmps189
  go_wp2_with fail
  go_loopw [5, 13] (fun _ s13 wr => ∃ (k : Nat), s13 = .int .i64 k ∧ k ≤ l.length ∧ Up w wr ∧ upTo (sameAt sameE1 l m) k = true) (fun _ s13 _ => l.length - (intOf s13).toNat)
  case atStart => exact ⟨0, rfl, Nat.zero_le _, .of (Ext.refl _), rfl⟩
  case round =>
    obtain ⟨k, rfl, hk, ⟨z, rfl⟩, hall⟩ := hrel
    have HALL := Lib.hid hall; clear hall
    by_cases hlt : k < l.length
    · obtain ⟨x, hxk⟩ := getElem?_some_of_lt hlt
      obtain ⟨y, hyk⟩ := getElem?_some_of_lt (l := m) (k := k) (by rw [← HLL.out]; exact hlt)
      obtain ⟨b, off, rfl, hb, hcc⟩ := hc k x hxk
      obtain ⟨b2, off2, rfl, hb2, hdd⟩ := hc' k y hyk
      have Hat := Lib.hid (sameAt_eq (same := sameE1) hxk hyk)
      obtain ⟨xk, xv⟩ := x; obtain ⟨yk, yv⟩ := y
      have c0 : w.cell? ⟨b, off + k * 2, none⟩ = some (.int .i64 xk) := hcc 0 _ rfl
      have c1 : w.cell? ⟨b, off + k * 2 + 1, none⟩ = some (.int .i64 xv) := hcc 1 _ rfl
      have d0 : w.cell? ⟨b2, off2 + k * 2, none⟩ = some (.int .i64 yk) := hdd 0 _ rfl
      have d1 : w.cell? ⟨b2, off2 + k * 2 + 1, none⟩ = some (.int .i64 yv) := hdd 1 _ rfl
      have k0 : (0 : Int) ≤ (k : Int) := by omega
      have k1 : (k : Int) < l.length := by omega
      clear hc hcc hc' hdd hxk hyk
      rcases (show (xk ≠ yk) ∨ (xk = yk ∧ xv ≠ yv) ∨ (xk = yk ∧ xv = yv) by omega) with hne | ⟨rfl, hne⟩ | ⟨rfl, rfl⟩
      · have hb0 : (xk == yk) = false := by simpa using hne
        have hb0' : (xk != yk) = true := by simpa using hne
        clear hne
        go_wp2_with fail
        (refine wp_region_up (by kernel_rfl) (by kernel_rfl) ?_; (repeat (go_big_quiet_step (fail))); refine wpQuiet_nil ?_; intro _ hw'; obtain ⟨zq, hw''⟩ := hw'; subst hw'')
        go_wp2_with fail
        go_ret
        exact ⟨by rw [hT.out, upTo_false hlt (by rw [Hat.out]; simp [sameE1, hb0])]; rfl, (.of (by repeat (first | (with_reducible exact Ext.refl _) | (with_reducible refine Ext.up ?_ _) | (with_reducible refine Ext.alloc ?_ _) | (with_reducible refine Ext.drew ?_) | (with_reducible refine Ext.setRow ?_ (by first | exact LeS.le | exact LeS.add _ | (simp; done) | (simp; omega)) _) | (with_reducible refine Ext.setCell ?_ (by first | exact LeS.le | exact LeS.add _ | (simp; done) | (simp; omega)) _))))⟩
      · have hb1 : (xv == yv) = false := by simpa using hne
        have hb1' : (xv != yv) = true := by simpa using hne
        clear hne
        go_wp2_with fail
        (refine wp_region_up (by kernel_rfl) (by kernel_rfl) ?_; (repeat (go_big_quiet_step (fail))); refine wpQuiet_nil ?_; intro _ hw'; obtain ⟨zq, hw''⟩ := hw'; subst hw'')
        go_wp2_with fail
        go_ret
        exact ⟨by rw [hT.out, upTo_false hlt (by rw [Hat.out]; simp [sameE1, hb1])]; rfl, (.of (by repeat (first | (with_reducible exact Ext.refl _) | (with_reducible refine Ext.up ?_ _) | (with_reducible refine Ext.alloc ?_ _) | (with_reducible refine Ext.drew ?_) | (with_reducible refine Ext.setRow ?_ (by first | exact LeS.le | exact LeS.add _ | (simp; done) | (simp; omega)) _) | (with_reducible refine Ext.setCell ?_ (by first | exact LeS.le | exact LeS.add _ | (simp; done) | (simp; omega)) _))))⟩
      · go_wp2_with fail
        (refine wp_region_up (by kernel_rfl) (by kernel_rfl) ?_; (repeat (go_big_quiet_step (fail))); refine wpQuiet_nil ?_; intro _ hw'; obtain ⟨zq, hw''⟩ := hw'; subst hw'')
        go_wp2_with fail
        go_roundw
        case rel => exact ⟨k + 1, by go_num, by omega, (.of (by repeat (first | (with_reducible exact Ext.refl _) | (with_reducible refine Ext.up ?_ _) | (with_reducible refine Ext.alloc ?_ _) | (with_reducible refine Ext.drew ?_) | (with_reducible refine Ext.setRow ?_ (by first | exact LeS.le | exact LeS.add _ | (simp; done) | (simp; omega)) _) | (with_reducible refine Ext.setCell ?_ (by first | exact LeS.le | exact LeS.add _ | (simp; done) | (simp; omega)) _)))), upTo_succ HALL.out (by rw [Hat.out]; simp [sameE1])⟩
        case measure => simp [intOf] <;> omega
    · obtain rfl : k = l.length := by omega
      go_wp2_with fail
      go_ret
      exact ⟨by rw [hT.out, HALL.out]; rfl, (.of (by repeat (first | (with_reducible exact Ext.refl _) | (with_reducible refine Ext.up ?_ _) | (with_reducible refine Ext.alloc ?_ _) | (with_reducible refine Ext.drew ?_) | (with_reducible refine Ext.setRow ?_ (by first | exact LeS.le | exact LeS.add _ | (simp; done) | (simp; omega)) _) | (with_reducible refine Ext.setCell ?_ (by first | exact LeS.le | exact LeS.add _ | (simp; done) | (simp; omega)) _))))⟩
set_option maxRecDepth 100000 in
set_option maxHeartbeats 1000000 in
theorem eqVers_any (l m : List Ver) (v v' : Value) (w : World) (h : SL (RF Ver.enc) 3 w v l) (h' : SL (RF Ver.enc) 3 w v' m) :
    Calls Try.prog 117 #[v, v'] w fun e w' => e = .returned (.bool (sameL sameV1 l m)) ∧ Up w w' := by
  obtain ⟨a, cap, rfl, hlen, hc⟩ := h.open
  obtain ⟨a', cap', rfl, _, hc'⟩ := h'.open
  clear h h'
  by_cases hll : l.length = m.length
  rotate_left
  · have hF := Lib.hid (show sameL sameV1 l m = false by unfold sameL; rw [decide_eq_false hll]; rfl)
    have hne : ((l.length : Int) != (m.length : Int)) = true := by rw [bne_iff_ne]; omega
    clear hll
    go_enter Try.func117, Try.ntmps117
    go_wp2_with fail
    go_ret
    exact ⟨by rw [hF.out]; rfl, (.of (by repeat (first | (with_reducible exact Ext.refl _) | (with_reducible refine Ext.up ?_ _) | (with_reducible refine Ext.alloc ?_ _) | (with_reducible refine Ext.drew ?_) | (with_reducible refine Ext.setRow ?_ (by first | exact LeS.le | exact LeS.add _ | (simp; done) | (simp; omega)) _) | (with_reducible refine Ext.setCell ?_ (by first | exact LeS.le | exact LeS.add _ | (simp; done) | (simp; omega)) _))))⟩
  have hT := Lib.hid (show sameL sameV1 l m = upTo (sameAt sameV1 l m) l.length by unfold sameL; rw [decide_eq_true hll, Bool.true_and])
  rw [← hll]
  have HLL := Lib.hid hll; clear hll
  go_enter Try.func117, Try.ntmps117
  go_wp2_with fail
  go_loopw [5, 13] (fun _ s13 wr => ∃ (k : Nat), s13 = .int .i64 k ∧ k ≤ l.length ∧ Up w wr ∧ upTo (sameAt sameV1 l m) k = true) (fun _ s13 _ => l.length - (intOf s13).toNat)
  case atStart => exact ⟨0, rfl, Nat.zero_le _, .of (Ext.refl _), rfl⟩
  case round =>
    obtain ⟨k, rfl, hk, ⟨z, rfl⟩, hall⟩ := hrel
    have HALL := Lib.hid hall; clear hall
    by_cases hlt : k < l.length
    · obtain ⟨x, hxk⟩ := getElem?_some_of_lt hlt
      obtain ⟨y, hyk⟩ := getElem?_some_of_lt (l := m) (k := k) (by rw [← HLL.out]; exact hlt)
      obtain ⟨b, off, rfl, hb, hcc⟩ := hc k x hxk
      obtain ⟨b2, off2, rfl, hb2, hdd⟩ := hc' k y hyk
      have Hat := Lib.hid (sameAt_eq (same := sameV1) hxk hyk)
      obtain ⟨xk, xb, xv⟩ := x; obtain ⟨yk, yb, yv⟩ := y
      have c0 : w.cell? ⟨b, off + k * 3, none⟩ = some (.int .i64 xk) := hcc 0 _ rfl
      have c1 : w.cell? ⟨b, off + k * 3 + 1, none⟩ = some (.int .i64 xb) := hcc 1 _ rfl
      have c2 : w.cell? ⟨b, off + k * 3 + 2, none⟩ = some (.int .i64 xv) := hcc 2 _ rfl
      have d0 : w.cell? ⟨b2, off2 + k * 3, none⟩ = some (.int .i64 yk) := hdd 0 _ rfl
      have d1 : w.cell? ⟨b2, off2 + k * 3 + 1, none⟩ = some (.int .i64 yb) := hdd 1 _ rfl
      have d2 : w.cell? ⟨b2, off2 + k * 3 + 2, none⟩ = some (.int .i64 yv) := hdd 2 _ rfl
      have k0 : (0 : Int) ≤ (k : Int) := by omega
      have k1 : (k : Int) < l.length := by omega
      clear hc hcc hc' hdd hxk hyk
      rcases (show (xk ≠ yk) ∨ (xk = yk ∧ xb ≠ yb) ∨ (xk = yk ∧ xb = yb ∧ xv ≠ yv) ∨ (xk = yk ∧ xb = yb ∧ xv = yv) by omega) with hne | ⟨rfl, hne⟩ | ⟨rfl, rfl, hne⟩ | ⟨rfl, rfl, rfl⟩
      · have hb0 : (xk == yk) = false := by simpa using hne
        have hb0' : (xk != yk) = true := by simpa using hne
        clear hne
        go_wp2_with fail
        (refine wp_region_up (by kernel_rfl) (by kernel_rfl) ?_; (repeat (go_big_quiet_step (fail))); refine wpQuiet_nil ?_; intro _ hw'; obtain ⟨zq, hw''⟩ := hw'; subst hw'')
        go_wp2_with fail
        go_ret
        exact ⟨by rw [hT.out, upTo_false hlt (by rw [Hat.out]; simp [sameV1, hb0])]; rfl, (.of (by repeat (first | (with_reducible exact Ext.refl _) | (with_reducible refine Ext.up ?_ _) | (with_reducible refine Ext.alloc ?_ _) | (with_reducible refine Ext.drew ?_) | (with_reducible refine Ext.setRow ?_ (by first | exact LeS.le | exact LeS.add _ | (simp; done) | (simp; omega)) _) | (with_reducible refine Ext.setCell ?_ (by first | exact LeS.le | exact LeS.add _ | (simp; done) | (simp; omega)) _))))⟩
      · have hb1 : (xb == yb) = false := by simpa using hne
        have hb1' : (xb != yb) = true := by simpa using hne
        clear hne
        go_wp2_with fail
        (refine wp_region_up (by kernel_rfl) (by kernel_rfl) ?_; (repeat (go_big_quiet_step (fail))); refine wpQuiet_nil ?_; intro _ hw'; obtain ⟨zq, hw''⟩ := hw'; subst hw'')
        go_wp2_with fail
        go_ret
        exact ⟨by rw [hT.out, upTo_false hlt (by rw [Hat.out]; simp [sameV1, hb1])]; rfl, (.of (by repeat (first | (with_reducible exact Ext.refl _) | (with_reducible refine Ext.up ?_ _) | (with_reducible refine Ext.alloc ?_ _) | (with_reducible refine Ext.drew ?_) | (with_reducible refine Ext.setRow ?_ (by first | exact LeS.le | exact LeS.add _ | (simp; done) | (simp; omega)) _) | (with_reducible refine Ext.setCell ?_ (by first | exact LeS.le | exact LeS.add _ | (simp; done) | (simp; omega)) _))))⟩
      · have hb2 : (xv == yv) = false := by simpa using hne
        have hb2' : (xv != yv) = true := by simpa using hne
        clear hne
        go_wp2_with fail
        (refine wp_region_up (by kernel_rfl) (by kernel_rfl) ?_; (repeat (go_big_quiet_step (fail))); refine wpQuiet_nil ?_; intro _ hw'; obtain ⟨zq, hw''⟩ := hw'; subst hw'')
        go_wp2_with fail
        go_ret
        exact ⟨by rw [hT.out, upTo_false hlt (by rw [Hat.out]; simp [sameV1, hb2])]; rfl, (.of (by repeat (first | (with_reducible exact Ext.refl _) | (with_reducible refine Ext.up ?_ _) | (with_reducible refine Ext.alloc ?_ _) | (with_reducible refine Ext.drew ?_) | (with_reducible refine Ext.setRow ?_ (by first | exact LeS.le | exact LeS.add _ | (simp; done) | (simp; omega)) _) | (with_reducible refine Ext.setCell ?_ (by first | exact LeS.le | exact LeS.add _ | (simp; done) | (simp; omega)) _))))⟩
      · go_wp2_with fail
        (refine wp_region_up (by kernel_rfl) (by kernel_rfl) ?_; (repeat (go_big_quiet_step (fail))); refine wpQuiet_nil ?_; intro _ hw'; obtain ⟨zq, hw''⟩ := hw'; subst hw'')
        go_wp2_with fail
        go_roundw
        case rel => exact ⟨k + 1, by go_num, by omega, (.of (by repeat (first | (with_reducible exact Ext.refl _) | (with_reducible refine Ext.up ?_ _) | (with_reducible refine Ext.alloc ?_ _) | (with_reducible refine Ext.drew ?_) | (with_reducible refine Ext.setRow ?_ (by first | exact LeS.le | exact LeS.add _ | (simp; done) | (simp; omega)) _) | (with_reducible refine Ext.setCell ?_ (by first | exact LeS.le | exact LeS.add _ | (simp; done) | (simp; omega)) _)))), upTo_succ HALL.out (by rw [Hat.out]; simp [sameV1])⟩
        case measure => simp [intOf] <;> omega
    · obtain rfl : k = l.length := by omega
      go_wp2_with fail
      go_ret
      exact ⟨by rw [hT.out, HALL.out]; rfl, (.of (by repeat (first | (with_reducible exact Ext.refl _) | (with_reducible refine Ext.up ?_ _) | (with_reducible refine Ext.alloc ?_ _) | (with_reducible refine Ext.drew ?_) | (with_reducible refine Ext.setRow ?_ (by first | exact LeS.le | exact LeS.add _ | (simp; done) | (simp; omega)) _) | (with_reducible refine Ext.setCell ?_ (by first | exact LeS.le | exact LeS.add _ | (simp; done) | (simp; omega)) _))))⟩
set_option maxRecDepth 100000 in
set_option maxHeartbeats 1000000 in
theorem eqInts_any (l m : List Int) (v v' : Value) (w : World) (h : SL (RF encI) 1 w v l) (h' : SL (RF encI) 1 w v' m) :
    Calls Try.prog 158 #[v, v'] w fun e w' => e = .returned (.bool (sameL sameI1 l m)) ∧ Up w w' := by
  obtain ⟨a, cap, rfl, hlen, hc⟩ := h.open
  obtain ⟨a', cap', rfl, _, hc'⟩ := h'.open
  clear h h'
  by_cases hll : l.length = m.length
  rotate_left
  · have hF := Lib.hid (show sameL sameI1 l m = false by unfold sameL; rw [decide_eq_false hll]; rfl)
    have hne : ((l.length : Int) != (m.length : Int)) = true := by rw [bne_iff_ne]; omega
    clear hll
    go_enter Try.func158, Try.ntmps158
    go_wp2_with fail
    go_ret
    exact ⟨by rw [hF.out]; rfl, (.of (by repeat (first | (with_reducible exact Ext.refl _) | (with_reducible refine Ext.up ?_ _) | (with_reducible refine Ext.alloc ?_ _) | (with_reducible refine Ext.drew ?_) | (with_reducible refine Ext.setRow ?_ (by first | exact LeS.le | exact LeS.add _ | (simp; done) | (simp; omega)) _) | (with_reducible refine Ext.setCell ?_ (by first | exact LeS.le | exact LeS.add _ | (simp; done) | (simp; omega)) _))))⟩
  have hT := Lib.hid (show sameL sameI1 l m = upTo (sameAt sameI1 l m) l.length by unfold sameL; rw [decide_eq_true hll, Bool.true_and])
  rw [← hll]
  have HLL := Lib.hid hll; clear hll
  go_enter Try.func158, Try.ntmps158
  go_wp2_with fail
  go_loopw [5, 13] (fun _ s13 wr => ∃ (k : Nat), s13 = .int .i64 k ∧ k ≤ l.length ∧ Up w wr ∧ upTo (sameAt sameI1 l m) k = true) (fun _ s13 _ => l.length - (intOf s13).toNat)
  case atStart => exact ⟨0, rfl, Nat.zero_le _, .of (Ext.refl _), rfl⟩
  case round =>
    obtain ⟨k, rfl, hk, ⟨z, rfl⟩, hall⟩ := hrel
    have HALL := Lib.hid hall; clear hall
    by_cases hlt : k < l.length
    · obtain ⟨x, hxk⟩ := getElem?_some_of_lt hlt
      obtain ⟨y, hyk⟩ := getElem?_some_of_lt (l := m) (k := k) (by rw [← HLL.out]; exact hlt)
      obtain ⟨b, off, rfl, hb, hcc⟩ := hc k x hxk
      obtain ⟨b2, off2, rfl, hb2, hdd⟩ := hc' k y hyk
      have Hat := Lib.hid (sameAt_eq (same := sameI1) hxk hyk)
      obtain ⟨xk, rfl⟩ : ∃ t, t = x := ⟨x, rfl⟩; obtain ⟨yk, rfl⟩ : ∃ t, t = y := ⟨y, rfl⟩
      have c0 : w.cell? ⟨b, off + k, none⟩ = some (.int .i64 xk) := by have := hcc 0 _ rfl; simpa using this
      have d0 : w.cell? ⟨b2, off2 + k, none⟩ = some (.int .i64 yk) := by have := hdd 0 _ rfl; simpa using this
      have k0 : (0 : Int) ≤ (k : Int) := by omega
      have k1 : (k : Int) < l.length := by omega
      clear hc hcc hc' hdd hxk hyk
      rcases (show (xk ≠ yk) ∨ (xk = yk) by omega) with hne | rfl
      · have hb0 : (xk == yk) = false := by simpa using hne
        have hb0' : (xk != yk) = true := by simpa using hne
        clear hne
        go_wp2_with fail
        (refine wp_region_up (by kernel_rfl) (by kernel_rfl) ?_; (repeat (go_big_quiet_step (fail))); refine wpQuiet_nil ?_; intro _ hw'; obtain ⟨zq, hw''⟩ := hw'; subst hw'')
        go_wp2_with fail
        go_ret
        exact ⟨by rw [hT.out, upTo_false hlt (by rw [Hat.out]; simp [sameI1, hb0])]; rfl, (.of (by repeat (first | (with_reducible exact Ext.refl _) | (with_reducible refine Ext.up ?_ _) | (with_reducible refine Ext.alloc ?_ _) | (with_reducible refine Ext.drew ?_) | (with_reducible refine Ext.setRow ?_ (by first | exact LeS.le | exact LeS.add _ | (simp; done) | (simp; omega)) _) | (with_reducible refine Ext.setCell ?_ (by first | exact LeS.le | exact LeS.add _ | (simp; done) | (simp; omega)) _))))⟩
      · go_wp2_with fail
        (refine wp_region_up (by kernel_rfl) (by kernel_rfl) ?_; (repeat (go_big_quiet_step (fail))); refine wpQuiet_nil ?_; intro _ hw'; obtain ⟨zq, hw''⟩ := hw'; subst hw'')
        go_wp2_with fail
        go_roundw
        case rel => exact ⟨k + 1, by go_num, by omega, (.of (by repeat (first | (with_reducible exact Ext.refl _) | (with_reducible refine Ext.up ?_ _) | (with_reducible refine Ext.alloc ?_ _) | (with_reducible refine Ext.drew ?_) | (with_reducible refine Ext.setRow ?_ (by first | exact LeS.le | exact LeS.add _ | (simp; done) | (simp; omega)) _) | (with_reducible refine Ext.setCell ?_ (by first | exact LeS.le | exact LeS.add _ | (simp; done) | (simp; omega)) _)))), upTo_succ HALL.out (by rw [Hat.out]; simp [sameI1])⟩
        case measure => simp [intOf] <;> omega
    · obtain rfl : k = l.length := by omega
      go_wp2_with fail
      go_ret
      exact ⟨by rw [hT.out, HALL.out]; rfl, (.of (by repeat (first | (with_reducible exact Ext.refl _) | (with_reducible refine Ext.up ?_ _) | (with_reducible refine Ext.alloc ?_ _) | (with_reducible refine Ext.drew ?_) | (with_reducible refine Ext.setRow ?_ (by first | exact LeS.le | exact LeS.add _ | (simp; done) | (simp; omega)) _) | (with_reducible refine Ext.setCell ?_ (by first | exact LeS.le | exact LeS.add _ | (simp; done) | (simp; omega)) _))))⟩
end Go.Proofs.Ytkboefmkfpnpjaa
namespace Go.Proofs.Ytkboefmkfpnpjaa
open Go Go.RowKit Go.Proofs

def verOrd (x y : Ver) : Int := or2 (x.k - y.k) (x.b - y.b)
def verIn (x : Ver) : Bool := inR x.k 0 31 && (inR x.b 0 9 && inR x.v 0 1000000)
def verLt (x y : Ver) : Bool := decide (verOrd x y < 0)
def verAt (l : List Ver) (i : Nat) : Bool := match l[i]? with
  | none => true
  | some x => verIn x && (decide (i = 0) || match l[i - 1]? with | none => true | some y => verLt y x)
theorem verAt_in {l : List Ver} {i : Nat} {x : Ver} (h : l[i]? = some x) (hf : verIn x = false) : verAt l i = false := by simp [verAt, h, hf]
theorem verAt_first {l : List Ver} {i : Nat} {x : Ver} (h : l[i]? = some x) (hi : ¬ 0 < i) : verAt l i = verIn x := by
  obtain rfl : i = 0 := by omega
  simp [verAt, h]
theorem verAt_next {l : List Ver} {i : Nat} {x y : Ver} (h : l[i]? = some x) (hi : 0 < i) (hy : l[i - 1]? = some y) : verAt l i = (verIn x && verLt y x) := by
  have : i ≠ 0 := by omega
  simp [verAt, h, hy, this]
def versOk (l : List Ver) : Bool := upTo (verAt l) l.length

theorem versionOrder_any (x y : Ver) (w : World) (h1 : inR x.k 0 31 = true) (h2 : inR y.k 0 31 = true) (h3 : inR x.b 0 9 = true) (h4 : inR y.b 0 9 = true) :
    Calls Try.prog 99 #[.agg #[.int .i64 x.k, .int .i64 x.b, .int .i64 x.v], .agg #[.int .i64 y.k, .int .i64 y.b, .int .i64 y.v]] w
      fun e w' => e = .returned (.int .i64 (verOrd x y)) ∧ Up w w' := by
  obtain ⟨h1, h1'⟩ := inR_iff.1 h1; obtain ⟨h2, h2'⟩ := inR_iff.1 h2; obtain ⟨h3, h3'⟩ := inR_iff.1 h3; obtain ⟨h4, h4'⟩ := inR_iff.1 h4
  go_enter Try.func99, Try.ntmps99
  go_wp2_with (go_at_call 105; refine (cmpOr2 (x.k - y.k) (x.b - y.b) _ _ (by go_simp) (by go_simp)).mono ?_; rintro e w' ⟨rfl, rfl⟩)
  go_ret
  exact ⟨rfl, .of ((((Ext.refl _).alloc _).alloc _).alloc _)⟩

set_option maxHeartbeats 2000000 in
theorem iVersionsValid_any (l : List Ver) (v : Value) (w : World) (h : SL (RF Ver.enc) 3 w v l) :
    Calls Try.prog 43 #[v] w fun e w' => e = .returned (.bool (versOk l)) ∧ Up w w' := by
  obtain ⟨a, cap, rfl, hlen, hc⟩ := h.open
  go_enter Try.func43, Try.ntmps43
  go_wp2_with fail
  go_loopw [3, 4, 7] (fun _ _ s7 wr => ∃ k : Nat, s7 = .int .i64 k ∧ k ≤ l.length ∧ upTo (verAt l) k = true ∧ Up w wr) (fun _ _ s7 _ => l.length - (intOf s7).toNat)
  case atStart => exact ⟨0, rfl, Nat.zero_le _, rfl, .of (Ext.refl _)⟩
  case round =>
    obtain ⟨k, rfl, hk, hall, z, rfl⟩ := hrel
    by_cases hlt : k < l.length
    · obtain ⟨x, hxk⟩ := getElem?_some_of_lt hlt
      obtain ⟨b, off, rfl, hb, hcc⟩ := hc k x hxk
      have c0 : w.cell? ⟨b, off + k * 3, none⟩ = some (.int .i64 x.k) := hcc 0 _ rfl
      have c1 : w.cell? ⟨b, off + k * 3 + 1, none⟩ = some (.int .i64 x.b) := hcc 1 _ rfl
      have c2 : w.cell? ⟨b, off + k * 3 + 2, none⟩ = some (.int .i64 x.v) := hcc 2 _ rfl
      clear hcc
      by_cases h0 : 0 < k
      · obtain ⟨y, hyk⟩ := getElem?_some_of_lt (show k - 1 < l.length by omega)
        obtain ⟨b', off', hbo, _, hdd⟩ := hc (k - 1) y hyk
        simp only [Option.some.injEq, Addr.mk.injEq, and_true] at hbo
        obtain ⟨rfl, rfl⟩ := hbo
        have d0 : w.cell? ⟨b, off + (k - 1) * 3, none⟩ = some (.int .i64 y.k) := hdd 0 _ rfl
        have d1 : w.cell? ⟨b, off + (k - 1) * 3 + 1, none⟩ = some (.int .i64 y.b) := hdd 1 _ rfl
        have d2 : w.cell? ⟨b, off + (k - 1) * 3 + 2, none⟩ = some (.int .i64 y.v) := hdd 2 _ rfl
        have hyin : verIn y = true := by
          have := upTo_iff.1 hall (k - 1) (by omega)
          by_cases hk1 : 0 < k - 1
          · obtain ⟨y', hy'⟩ := getElem?_some_of_lt (show k - 1 - 1 < l.length by omega)
            rw [verAt_next hyk hk1 hy'] at this
            simp at this; exact this.1
          · rw [verAt_first hyk hk1] at this; exact this
        simp only [verIn, Bool.and_eq_true] at hyin
        obtain ⟨hy1, hy2, hy3⟩ := hyin
        have Hx := Lib.hid hxk; have Hall := Lib.hid hall; have Hy := Lib.hid hyk
        have k0 : decide ((0 : Int) < (k : Int)) = true := by simpa using h0
        clear hc hdd hxk hall hyk
        rcases guards4 (inR x.k 0 31) (inR x.b 0 9) (inR x.v 0 1000000) (verLt y x) with h1 | ⟨h1, h2⟩ | ⟨h1, h2, h3⟩ | ⟨h1, h2, h3, h4⟩ | ⟨h1, h2, h3, h4⟩
        case inr.inr.inr.inl =>
          have h4' : 0 ≤ verOrd y x := by simpa [verLt] using h4
          go_wp2_with fail
          (refine wp_region_up (by kernel_rfl) (by kernel_rfl) ?_; (repeat (go_big_quiet_step (first | (go_at_call 91; exact Calls.up_same (isKey_any _ _)) | (go_at_call 88; exact Calls.up_same (in_any _ _ _ _)) | (go_at_call 98; exact Calls.up_same (isValue_any _ _)) | (go_at_call 99; exact Calls.up (versionOrder_any y x _ hy1 h1 hy2 h2))))); refine wpQuiet_nil ?_; intro _ hw'; obtain ⟨zq, hw''⟩ := hw'; subst hw'')
          go_wp2_with fail
          go_ret
          refine ⟨?_, (.of (by repeat (first | exact Ext.refl _ | refine Ext.up ?_ _ | refine Ext.alloc ?_ _ | refine Ext.drew ?_ | refine Ext.setRow ?_ (by first | (dsimp only; omega) | exact LeS.le | exact LeS.add _ | (simp; done) | (simp; omega)) _ | refine Ext.setCell ?_ (by first | (dsimp only; omega) | exact LeS.le | exact LeS.add _ | (simp; done) | (simp; omega)) _)))⟩
          show Ending.returned (.bool false) = _
          rw [versOk, upTo_false hlt (by rw [verAt_next Hx.out h0 Hy.out, h4, Bool.and_false])]
        case inr.inr.inr.inr =>
          have h4' : verOrd y x < 0 := by simpa [verLt] using h4
          go_wp2_with fail
          (refine wp_region_up (by kernel_rfl) (by kernel_rfl) ?_; (repeat (go_big_quiet_step (first | (go_at_call 91; exact Calls.up_same (isKey_any _ _)) | (go_at_call 88; exact Calls.up_same (in_any _ _ _ _)) | (go_at_call 98; exact Calls.up_same (isValue_any _ _)) | (go_at_call 99; exact Calls.up (versionOrder_any y x _ hy1 h1 hy2 h2))))); refine wpQuiet_nil ?_; intro _ hw'; obtain ⟨zq, hw''⟩ := hw'; subst hw'')
          go_wp2_with fail
          go_roundw
          case rel => exact ⟨k + 1, by go_num, by omega, upTo_succ Hall.out (by rw [verAt_next Hx.out h0 Hy.out, h4, verIn, h1, h2, h3]; rfl), (.of (by repeat (first | exact Ext.refl _ | refine Ext.up ?_ _ | refine Ext.alloc ?_ _ | refine Ext.drew ?_ | refine Ext.setRow ?_ (by first | (dsimp only; omega) | exact LeS.le | exact LeS.add _ | (simp; done) | (simp; omega)) _ | refine Ext.setCell ?_ (by first | (dsimp only; omega) | exact LeS.le | exact LeS.add _ | (simp; done) | (simp; omega)) _)))⟩
          case measure => simp [intOf]; omega
        all_goals
          go_wp2_with fail
          (refine wp_region_up (by kernel_rfl) (by kernel_rfl) ?_; (repeat (go_big_quiet_step (first | (go_at_call 91; exact Calls.up_same (isKey_any _ _)) | (go_at_call 88; exact Calls.up_same (in_any _ _ _ _)) | (go_at_call 98; exact Calls.up_same (isValue_any _ _))))); refine wpQuiet_nil ?_; intro _ hw'; obtain ⟨zq, hw''⟩ := hw'; subst hw'')
          go_wp2_with fail
          go_ret
          refine ⟨?_, (.of (by repeat (first | exact Ext.refl _ | refine Ext.up ?_ _ | refine Ext.alloc ?_ _ | refine Ext.drew ?_ | refine Ext.setRow ?_ (by first | (dsimp only; omega) | exact LeS.le | exact LeS.add _ | (simp; done) | (simp; omega)) _ | refine Ext.setCell ?_ (by first | (dsimp only; omega) | exact LeS.le | exact LeS.add _ | (simp; done) | (simp; omega)) _)))⟩
          show Ending.returned (.bool false) = _
          rw [versOk, upTo_false hlt (verAt_in Hx.out (by simp [verIn, *]))]
      · have Hx := Lib.hid hxk; have Hall := Lib.hid hall
        clear hc hxk hall
        rcases guards3 (inR x.k 0 31) (inR x.b 0 9) (inR x.v 0 1000000) with h1 | ⟨h1, h2⟩ | ⟨h1, h2, h3⟩ | ⟨h1, h2, h3⟩
        case inr.inr.inr =>
          go_wp2_with fail
          (refine wp_region_up (by kernel_rfl) (by kernel_rfl) ?_; (repeat (go_big_quiet_step (first | (go_at_call 91; exact Calls.up_same (isKey_any _ _)) | (go_at_call 88; exact Calls.up_same (in_any _ _ _ _)) | (go_at_call 98; exact Calls.up_same (isValue_any _ _))))); refine wpQuiet_nil ?_; intro _ hw'; obtain ⟨zq, hw''⟩ := hw'; subst hw'')
          go_wp2_with fail
          go_roundw
          case rel => exact ⟨k + 1, by go_num, by omega, upTo_succ Hall.out (by rw [verAt_first Hx.out h0, verIn, h1, h2, h3]; rfl), (.of (by repeat (first | exact Ext.refl _ | refine Ext.up ?_ _ | refine Ext.alloc ?_ _ | refine Ext.drew ?_ | refine Ext.setRow ?_ (by first | (dsimp only; omega) | exact LeS.le | exact LeS.add _ | (simp; done) | (simp; omega)) _ | refine Ext.setCell ?_ (by first | (dsimp only; omega) | exact LeS.le | exact LeS.add _ | (simp; done) | (simp; omega)) _)))⟩
          case measure => simp [intOf]; omega
        all_goals
          go_wp2_with fail
          (refine wp_region_up (by kernel_rfl) (by kernel_rfl) ?_; (repeat (go_big_quiet_step (first | (go_at_call 91; exact Calls.up_same (isKey_any _ _)) | (go_at_call 88; exact Calls.up_same (in_any _ _ _ _)) | (go_at_call 98; exact Calls.up_same (isValue_any _ _))))); refine wpQuiet_nil ?_; intro _ hw'; obtain ⟨zq, hw''⟩ := hw'; subst hw'')
          go_wp2_with fail
          go_ret
          refine ⟨?_, (.of (by repeat (first | exact Ext.refl _ | refine Ext.up ?_ _ | refine Ext.alloc ?_ _ | refine Ext.drew ?_ | refine Ext.setRow ?_ (by first | (dsimp only; omega) | exact LeS.le | exact LeS.add _ | (simp; done) | (simp; omega)) _ | refine Ext.setCell ?_ (by first | (dsimp only; omega) | exact LeS.le | exact LeS.add _ | (simp; done) | (simp; omega)) _)))⟩
          show Ending.returned (.bool false) = _
          rw [versOk, upTo_false hlt (verAt_in Hx.out (by simp [verIn, *]))]
    · go_wp2_with fail
      go_ret
      obtain rfl : k = l.length := by omega
      refine ⟨?_, z, rfl⟩; show Ending.returned (.bool true) = _; rw [versOk, hall]
theorem verLt_iff (x y : Ver) : verLt x y = true ↔ (x.k < y.k ∨ (x.k = y.k ∧ x.b < y.b)) := by
  unfold verLt verOrd or2
  rw [decide_eq_true_iff]
  by_cases h : x.k - y.k = 0
  · rw [if_pos h]; omega
  · rw [if_neg h]; omega
theorem verLt_not {x y : Ver} (h : ¬ (x.k < y.k ∨ (x.k = y.k ∧ x.b < y.b))) : verLt x y = false := by
  rw [← verLt_iff] at h; simpa using h

set_option maxHeartbeats 4000000 in
theorem sVersionsValid_any (l : List Ver) (v : Value) (w : World) (h : SL (RF Ver.enc) 3 w v l) :
    Calls Try.prog 95 #[v] w fun e w' => e = .returned (.bool (versOk l)) ∧ Up w w' := by
  obtain ⟨a, cap, rfl, hlen, hc⟩ := h.open
  go_enter Try.func95, Try.ntmps95
  go_wp2_with fail
  go_loopw [3, 4] (fun s3 _ wr => ∃ k : Nat, s3 = .int .i64 k ∧ k ≤ l.length ∧ upTo (verAt l) k = true ∧ Up w wr) (fun s3 _ _ => l.length - (intOf s3).toNat)
  case atStart => exact ⟨0, rfl, Nat.zero_le _, rfl, .of (Ext.refl _)⟩
  case round =>
    obtain ⟨k, rfl, hk, hall, z, rfl⟩ := hrel
    by_cases hlt : k < l.length
    · obtain ⟨x, hxk⟩ := getElem?_some_of_lt hlt
      obtain ⟨b, off, rfl, hb, hcc⟩ := hc k x hxk
      have c0 : w.cell? ⟨b, off + k * 3, none⟩ = some (.int .i64 x.k) := hcc 0 _ rfl
      have c1 : w.cell? ⟨b, off + k * 3 + 1, none⟩ = some (.int .i64 x.b) := hcc 1 _ rfl
      have c2 : w.cell? ⟨b, off + k * 3 + 2, none⟩ = some (.int .i64 x.v) := hcc 2 _ rfl
      clear hcc
      have Hx := Lib.hid hxk; have Hall := Lib.hid hall
      rcases guards3 (inR x.k 0 31) (inR x.b 0 9) (inR x.v 0 1000000) with h1 | ⟨h1, h2⟩ | ⟨h1, h2, h3⟩ | ⟨h1, h2, h3⟩
      case inr.inr.inr =>
        by_cases h0 : 0 < k
        · obtain ⟨y, hyk⟩ := getElem?_some_of_lt (show k - 1 < l.length by omega)
          obtain ⟨b', off', hbo, _, hdd⟩ := hc (k - 1) y hyk
          simp only [Option.some.injEq, Addr.mk.injEq, and_true] at hbo
          obtain ⟨rfl, rfl⟩ := hbo
          have d0 : w.cell? ⟨b, off + (k - 1) * 3, none⟩ = some (.int .i64 y.k) := hdd 0 _ rfl
          have d1 : w.cell? ⟨b, off + (k - 1) * 3 + 1, none⟩ = some (.int .i64 y.b) := hdd 1 _ rfl
          have k0 : decide ((0 : Int) < (k : Int)) = true := by simpa using h0
          have Hy := Lib.hid hyk
          have hv := verAt_next hxk h0 hyk
          have hin : verIn x = true := by rw [verIn, h1, h2, h3]; rfl
          rw [hin, Bool.true_and] at hv
          have Hv := Lib.hid hv
          clear hc hdd hxk hall hyk hv hin
          by_cases g1 : x.k < y.k
          · have hf : verLt y x = false := verLt_not (by omega)
            have g1' : decide (x.k < y.k) = true := by simpa using g1
            go_wp2_with (go_at_call 66; refine (l1In_any _ _ _ _).mono ?_; rintro e w' ⟨rfl, rfl⟩)
            (refine wp_region_up (by kernel_rfl) (by kernel_rfl) ?_; (repeat (go_big_quiet_step (fail))); refine wpQuiet_nil ?_; intro _ hw'; obtain ⟨zq, hw''⟩ := hw'; subst hw'')
            go_wp2_with fail
            go_ret
            refine ⟨?_, (.of (by repeat (first | exact Ext.refl _ | refine Ext.up ?_ _ | refine Ext.alloc ?_ _ | refine Ext.drew ?_ | refine Ext.setRow ?_ (by first | (dsimp only; omega) | exact LeS.le | exact LeS.add _ | (simp; done) | (simp; omega)) _ | refine Ext.setCell ?_ (by first | (dsimp only; omega) | exact LeS.le | exact LeS.add _ | (simp; done) | (simp; omega)) _)))⟩
            show Ending.returned (.bool false) = _
            rw [versOk, upTo_false hlt (Hv.out.trans hf)]
          have g1' : decide (x.k < y.k) = false := by simpa using g1
          rcases ne_cases x.k y.k with ⟨g2, g2'⟩ | ⟨g2, g2'⟩
          · have hf : verLt y x = true := (verLt_iff y x).2 (by omega)
            have g2b : (x.k == y.k) = false := by simpa using g2
            go_wp2_with (go_at_call 66; refine (l1In_any _ _ _ _).mono ?_; rintro e w' ⟨rfl, rfl⟩)
            (refine wp_region_up (by kernel_rfl) (by kernel_rfl) ?_; (repeat (go_big_quiet_step (fail))); refine wpQuiet_nil ?_; intro _ hw'; obtain ⟨zq, hw''⟩ := hw'; subst hw'')
            go_wp2_with fail
            go_roundw
            case rel => exact ⟨k + 1, by go_num, by omega, upTo_succ Hall.out (Hv.out.trans hf), (.of (by repeat (first | exact Ext.refl _ | refine Ext.up ?_ _ | refine Ext.alloc ?_ _ | refine Ext.drew ?_ | refine Ext.setRow ?_ (by first | (dsimp only; omega) | exact LeS.le | exact LeS.add _ | (simp; done) | (simp; omega)) _ | refine Ext.setCell ?_ (by first | (dsimp only; omega) | exact LeS.le | exact LeS.add _ | (simp; done) | (simp; omega)) _)))⟩
            case measure => simp [intOf]; omega
          by_cases g3 : x.b ≤ y.b
          · have hf : verLt y x = false := verLt_not (by omega)
            have g2b : (x.k == y.k) = true := by simpa using g2
            have g3' : decide (x.b ≤ y.b) = true := by simpa using g3
            clear g2
            go_wp2_with (go_at_call 66; refine (l1In_any _ _ _ _).mono ?_; rintro e w' ⟨rfl, rfl⟩)
            (refine wp_region_up (by kernel_rfl) (by kernel_rfl) ?_; (repeat (go_big_quiet_step (fail))); refine wpQuiet_nil ?_; intro _ hw'; obtain ⟨zq, hw''⟩ := hw'; subst hw'')
            go_wp2_with fail
            go_ret
            refine ⟨?_, (.of (by repeat (first | exact Ext.refl _ | refine Ext.up ?_ _ | refine Ext.alloc ?_ _ | refine Ext.drew ?_ | refine Ext.setRow ?_ (by first | (dsimp only; omega) | exact LeS.le | exact LeS.add _ | (simp; done) | (simp; omega)) _ | refine Ext.setCell ?_ (by first | (dsimp only; omega) | exact LeS.le | exact LeS.add _ | (simp; done) | (simp; omega)) _)))⟩
            show Ending.returned (.bool false) = _
            rw [versOk, upTo_false hlt (Hv.out.trans hf)]
          · have hf : verLt y x = true := (verLt_iff y x).2 (by omega)
            have g2b : (x.k == y.k) = true := by simpa using g2
            have g3' : decide (x.b ≤ y.b) = false := by simpa using g3
            clear g2
            go_wp2_with (go_at_call 66; refine (l1In_any _ _ _ _).mono ?_; rintro e w' ⟨rfl, rfl⟩)
            (refine wp_region_up (by kernel_rfl) (by kernel_rfl) ?_; (repeat (go_big_quiet_step (fail))); refine wpQuiet_nil ?_; intro _ hw'; obtain ⟨zq, hw''⟩ := hw'; subst hw'')
            go_wp2_with fail
            go_roundw
            case rel => exact ⟨k + 1, by go_num, by omega, upTo_succ Hall.out (Hv.out.trans hf), (.of (by repeat (first | exact Ext.refl _ | refine Ext.up ?_ _ | refine Ext.alloc ?_ _ | refine Ext.drew ?_ | refine Ext.setRow ?_ (by first | (dsimp only; omega) | exact LeS.le | exact LeS.add _ | (simp; done) | (simp; omega)) _ | refine Ext.setCell ?_ (by first | (dsimp only; omega) | exact LeS.le | exact LeS.add _ | (simp; done) | (simp; omega)) _)))⟩
            case measure => simp [intOf]; omega
        · have k0 : decide ((0 : Int) < (k : Int)) = false := by simpa using h0
          have hv := verAt_first hxk h0
          have hin : verIn x = true := by rw [verIn, h1, h2, h3]; rfl
          have Hv := Lib.hid (hv.trans hin)
          clear hc hxk hall hv hin
          go_wp2_with (go_at_call 66; refine (l1In_any _ _ _ _).mono ?_; rintro e w' ⟨rfl, rfl⟩)
          (refine wp_region_up (by kernel_rfl) (by kernel_rfl) ?_; (repeat (go_big_quiet_step (fail))); refine wpQuiet_nil ?_; intro _ hw'; obtain ⟨zq, hw''⟩ := hw'; subst hw'')
          go_wp2_with fail
          go_roundw
          case rel => exact ⟨k + 1, by go_num, by omega, upTo_succ Hall.out Hv.out, (.of (by repeat (first | exact Ext.refl _ | refine Ext.up ?_ _ | refine Ext.alloc ?_ _ | refine Ext.drew ?_ | refine Ext.setRow ?_ (by first | (dsimp only; omega) | exact LeS.le | exact LeS.add _ | (simp; done) | (simp; omega)) _ | refine Ext.setCell ?_ (by first | (dsimp only; omega) | exact LeS.le | exact LeS.add _ | (simp; done) | (simp; omega)) _)))⟩
          case measure => simp [intOf]; omega
      all_goals
        clear hc hxk hall
        go_wp2_with (go_at_call 66; refine (l1In_any _ _ _ _).mono ?_; rintro e w' ⟨rfl, rfl⟩)
        go_ret
        refine ⟨?_, (.of (by repeat (first | exact Ext.refl _ | refine Ext.up ?_ _ | refine Ext.alloc ?_ _ | refine Ext.drew ?_ | refine Ext.setRow ?_ (by first | (dsimp only; omega) | exact LeS.le | exact LeS.add _ | (simp; done) | (simp; omega)) _ | refine Ext.setCell ?_ (by first | (dsimp only; omega) | exact LeS.le | exact LeS.add _ | (simp; done) | (simp; omega)) _)))⟩
        show Ending.returned (.bool false) = _
        rw [versOk, upTo_false hlt (verAt_in Hx.out (by simp [verIn, *]))]
    · go_wp2_with fail
      go_ret
      obtain rfl : k = l.length := by omega
      refine ⟨?_, z, rfl⟩; show Ending.returned (.bool true) = _; rw [versOk, hall]
end Go.Proofs.Ytkboefmkfpnpjaa
