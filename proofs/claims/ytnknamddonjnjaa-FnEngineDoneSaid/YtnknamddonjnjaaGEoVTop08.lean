/- Walks: drawn actions. -/
import Derived.Test.YtnknamddonjnjaaGEoVTop07
set_option linter.unusedSimpArgs false
set_option linter.unusedVariables false
namespace Go.Proofs.Ytnknamddonjnjaa
open Go Go.RowKit Go.Proofs

set_option maxRecDepth 100000 in
set_option maxHeartbeats 2000000 in
theorem action_any (w0 w : World) (rb : Nat) (lim n : Int) (h : Rd w0 w rb lim) (hl : lim ≤ 800000) (hn0 : 0 ≤ n) (hn1 : n ≤ 1000000) :
    Calls Try.prog 67 #[.pointer (some ⟨rb, 0, none⟩), .int .i64 n] w fun e w' => ∃ x : Actn, e = .returned (.agg #[.int .i64 x.kind, .int .i64 x.src, .int .i64 x.dst, .int .i64 x.amt]) ∧ (n = 0 → x.ok = true) ∧ (∃ z : ExtR rb w, w' = z.val) ∧ Rd w0 w' rb (lim + 16) := by
  have H := Lib.hid h
  have hL : LtS rb w := ⟨h.lt⟩
  have hLe : LeS w0 w := ⟨h.ext.size⟩
  clear h
  go_enter Try.func67, Try.ntmps67
  go_wp2_with fail
  refine (pick_any w0 _ rb lim 6 (H.out.up (by repeat (first | (with_reducible exact Ext.refl _) | (with_reducible refine Ext.up ?_ _) | (with_reducible refine Ext.alloc ?_ _) | (with_reducible refine Ext.drew ?_) | (with_reducible refine Ext.setRow ?_ (by first | exact LeS.le | exact LeS.add _ | (simp; done) | (simp; omega)) _) | (with_reducible refine Ext.setCell ?_ (by first | exact LeS.le | exact LeS.add _ | (simp; done) | (simp; omega)) _)))) (by omega) (by omega) (by omega)).mono ?_; rintro e w' ⟨kd, rfl, kd0, kd1, kd2, ⟨z1, rfl⟩, hr⟩
  have H1 := Lib.hid hr; clear hr
  have hkd := kd1 (by omega)
  clear kd1 kd2
  go_wp2_with fail
  refine (key_any w0 _ rb _ H1.out (by omega)).mono ?_; rintro e w' ⟨a, rfl, a0, a1, ⟨z2, rfl⟩, hr⟩
  have H2 := Lib.hid hr; clear hr
  go_wp2_with fail
  refine (key_any w0 _ rb _ H2.out (by omega)).mono ?_; rintro e w' ⟨b, rfl, b0, b1, ⟨z3, rfl⟩, hr⟩
  have H3 := Lib.hid hr; clear hr
  go_wp2_with fail
  refine (value_any w0 _ rb _ H3.out (by omega)).mono ?_; rintro e w' ⟨v, rfl, v0, v1, ⟨z4, rfl⟩, hr⟩
  have H4 := Lib.hid hr; clear hr
  -- arms
  have hne4 : w.heap.size ≠ z4.val.heap.size := Nat.ne_of_lt LtS.lt
  have hne4' := hne4.symm
  have hq : kd = 0 ∨ kd = 1 ∨ kd = 2 ∨ kd = 3 ∨ kd = 4 ∨ kd = 5 := by omega
  rcases hq with rfl | rfl | rfl | rfl | rfl | rfl
  · go_wp2_with fail
    refine (odd_any w0 _ rb _ n (H4.out.up (by repeat (first | (with_reducible exact Ext.refl _) | (with_reducible refine Ext.up ?_ _) | (with_reducible refine Ext.alloc ?_ _) | (with_reducible refine Ext.drew ?_) | (with_reducible refine Ext.setRow ?_ (by first | exact LeS.le | exact LeS.add _ | (simp; done) | (simp; omega)) _) | (with_reducible refine Ext.setCell ?_ (by first | exact LeS.le | exact LeS.add _ | (simp; done) | (simp; omega)) _)))) (by omega) (by omega) (by omega)).mono ?_; rintro e w' ⟨bo, rfl, hbo, ⟨z5, rfl⟩, hr⟩
    have H5 := Lib.hid hr; clear hr
    rcases bo with _ | _
    · go_wp2_with fail
      refine bodyPost_ret (v := .agg #[.int .i64 1, .int .i64 a, .int .i64 0, .int .i64 v]) (by simp [results, Try.results67, go_sem]) rfl ?_
      refine ⟨⟨1, a, 0, v⟩, rfl, fun _ => by simp [Actn.ok, kindOk, inR]; omega, ExtR.of (by repeat (first | (with_reducible exact grownBy_refl _ _) | (with_reducible refine GB.setNew ?_ (by first | exact LeS.le | exact LeS.add _ | (simp; done) | (simp; omega)) _ _) | (with_reducible refine GB.alloc ?_ _) | (with_reducible refine GB.drew ?_) | (with_reducible refine GB.upR ?_ _) | (with_reducible refine GB.up ?_ _))), ?_⟩
      (refine Rd.mono (a := ?_) ?_ ?_; rotate_left; (repeat (first | (with_reducible exact H5.out) | (with_reducible refine Rd.alloc ?_ _) | (with_reducible refine Rd.set ?_ _ _ NeS.ne (by first | exact LeS.le | exact LeS.add _)))); omega)
    · have hn : n ≠ 0 := fun e => by cases hbo e
      go_wp2_with fail
      refine (pick_any w0 _ rb _ 4 H5.out (by omega) (by omega) (by omega)).mono ?_; rintro e w' ⟨q, rfl, q0, q1, q2, ⟨z6, rfl⟩, hr⟩
      have H6 := Lib.hid hr; clear hr
      have hq1 := q1 (by omega)
      clear q1 q2
      have hq : q = 0 ∨ q = 1 ∨ q = 2 ∨ q = 3 := by omega
      rcases hq with rfl | rfl | rfl | rfl
      · go_wp2_with fail
        refine (pick_any w0 _ rb _ 2 (H6.out.up (by repeat (first | (with_reducible exact Ext.refl _) | (with_reducible refine Ext.up ?_ _) | (with_reducible refine Ext.alloc ?_ _) | (with_reducible refine Ext.drew ?_) | (with_reducible refine Ext.setRow ?_ (by first | exact LeS.le | exact LeS.add _ | (simp; done) | (simp; omega)) _) | (with_reducible refine Ext.setCell ?_ (by first | exact LeS.le | exact LeS.add _ | (simp; done) | (simp; omega)) _)))) (by omega) (by omega) (by omega)).mono ?_; rintro e w' ⟨r, rfl, r0, r1, r2, ⟨z7, rfl⟩, hr⟩
        have H7 := Lib.hid hr; clear hr
        have hr1 := r1 (by omega)
        clear r1 r2
        obtain ⟨u, hu⟩ : ∃ u, z7.val.cell? ⟨z6.val.heap.size, r.toNat, none⟩ = some (.int .i64 u) := by
          have hr : r = 0 ∨ r = 1 := by omega
          rcases hr with rfl | rfl
          · exact ⟨0, by go_simp⟩
          · exact ⟨7, by go_simp⟩
        go_wp2_with fail
        refine bodyPost_ret (v := .agg #[.int .i64 u, .int .i64 a, .int .i64 0, .int .i64 v]) (by simp [results, Try.results67, go_sem]) rfl ?_
        refine ⟨⟨u, a, 0, v⟩, rfl, fun e => absurd e hn, ExtR.of (by repeat (first | (with_reducible exact grownBy_refl _ _) | (with_reducible refine GB.setNew ?_ (by first | exact LeS.le | exact LeS.add _ | (simp; done) | (simp; omega)) _ _) | (with_reducible refine GB.alloc ?_ _) | (with_reducible refine GB.drew ?_) | (with_reducible refine GB.upR ?_ _) | (with_reducible refine GB.up ?_ _))), ?_⟩
        (refine Rd.mono (a := ?_) ?_ ?_; rotate_left; (repeat (first | (with_reducible exact H7.out) | (with_reducible refine Rd.alloc ?_ _) | (with_reducible refine Rd.set ?_ _ _ NeS.ne (by first | exact LeS.le | exact LeS.add _)))); omega)
      · go_wp2_with fail
        refine (pick_any w0 _ rb _ 2 (H6.out.up (by repeat (first | (with_reducible exact Ext.refl _) | (with_reducible refine Ext.up ?_ _) | (with_reducible refine Ext.alloc ?_ _) | (with_reducible refine Ext.drew ?_) | (with_reducible refine Ext.setRow ?_ (by first | exact LeS.le | exact LeS.add _ | (simp; done) | (simp; omega)) _) | (with_reducible refine Ext.setCell ?_ (by first | exact LeS.le | exact LeS.add _ | (simp; done) | (simp; omega)) _)))) (by omega) (by omega) (by omega)).mono ?_; rintro e w' ⟨r, rfl, r0, r1, r2, ⟨z7, rfl⟩, hr⟩
        have H7 := Lib.hid hr; clear hr
        have hr1 := r1 (by omega)
        clear r1 r2
        obtain ⟨u, hu⟩ : ∃ u, z7.val.cell? ⟨z6.val.heap.size, r.toNat, none⟩ = some (.int .i64 u) := by
          have hr : r = 0 ∨ r = 1 := by omega
          rcases hr with rfl | rfl
          · exact ⟨-1, by go_simp⟩
          · exact ⟨32, by go_simp⟩
        go_wp2_with fail
        refine bodyPost_ret (v := .agg #[.int .i64 1, .int .i64 u, .int .i64 0, .int .i64 v]) (by simp [results, Try.results67, go_sem]) rfl ?_
        refine ⟨⟨1, u, 0, v⟩, rfl, fun e => absurd e hn, ExtR.of (by repeat (first | (with_reducible exact grownBy_refl _ _) | (with_reducible refine GB.setNew ?_ (by first | exact LeS.le | exact LeS.add _ | (simp; done) | (simp; omega)) _ _) | (with_reducible refine GB.alloc ?_ _) | (with_reducible refine GB.drew ?_) | (with_reducible refine GB.upR ?_ _) | (with_reducible refine GB.up ?_ _))), ?_⟩
        (refine Rd.mono (a := ?_) ?_ ?_; rotate_left; (repeat (first | (with_reducible exact H7.out) | (with_reducible refine Rd.alloc ?_ _) | (with_reducible refine Rd.set ?_ _ _ NeS.ne (by first | exact LeS.le | exact LeS.add _)))); omega)
      · go_wp2_with fail
        refine (pick_any w0 _ rb _ 2 (H6.out.up (by repeat (first | (with_reducible exact Ext.refl _) | (with_reducible refine Ext.up ?_ _) | (with_reducible refine Ext.alloc ?_ _) | (with_reducible refine Ext.drew ?_) | (with_reducible refine Ext.setRow ?_ (by first | exact LeS.le | exact LeS.add _ | (simp; done) | (simp; omega)) _) | (with_reducible refine Ext.setCell ?_ (by first | exact LeS.le | exact LeS.add _ | (simp; done) | (simp; omega)) _)))) (by omega) (by omega) (by omega)).mono ?_; rintro e w' ⟨r, rfl, r0, r1, r2, ⟨z7, rfl⟩, hr⟩
        have H7 := Lib.hid hr; clear hr
        have hr1 := r1 (by omega)
        clear r1 r2
        obtain ⟨u, hu⟩ : ∃ u, z7.val.cell? ⟨z6.val.heap.size, r.toNat, none⟩ = some (.int .i64 u) := by
          have hr : r = 0 ∨ r = 1 := by omega
          rcases hr with rfl | rfl
          · exact ⟨-1, by go_simp⟩
          · exact ⟨1000001, by go_simp⟩
        go_wp2_with fail
        refine bodyPost_ret (v := .agg #[.int .i64 1, .int .i64 a, .int .i64 0, .int .i64 u]) (by simp [results, Try.results67, go_sem]) rfl ?_
        refine ⟨⟨1, a, 0, u⟩, rfl, fun e => absurd e hn, ExtR.of (by repeat (first | (with_reducible exact grownBy_refl _ _) | (with_reducible refine GB.setNew ?_ (by first | exact LeS.le | exact LeS.add _ | (simp; done) | (simp; omega)) _ _) | (with_reducible refine GB.alloc ?_ _) | (with_reducible refine GB.drew ?_) | (with_reducible refine GB.upR ?_ _) | (with_reducible refine GB.up ?_ _))), ?_⟩
        (refine Rd.mono (a := ?_) ?_ ?_; rotate_left; (repeat (first | (with_reducible exact H7.out) | (with_reducible refine Rd.alloc ?_ _) | (with_reducible refine Rd.set ?_ _ _ NeS.ne (by first | exact LeS.le | exact LeS.add _)))); omega)
      · go_wp2_with fail
        refine bodyPost_ret (v := .agg #[.int .i64 1, .int .i64 0, .int .i64 1, .int .i64 0]) (by simp [results, Try.results67, go_sem]) rfl ?_
        refine ⟨⟨1, 0, 1, 0⟩, rfl, fun e => absurd e hn, ExtR.of (by repeat (first | (with_reducible exact grownBy_refl _ _) | (with_reducible refine GB.setNew ?_ (by first | exact LeS.le | exact LeS.add _ | (simp; done) | (simp; omega)) _ _) | (with_reducible refine GB.alloc ?_ _) | (with_reducible refine GB.drew ?_) | (with_reducible refine GB.upR ?_ _) | (with_reducible refine GB.up ?_ _))), ?_⟩
        (refine Rd.mono (a := ?_) ?_ ?_; rotate_left; (repeat (first | (with_reducible exact H6.out) | (with_reducible refine Rd.alloc ?_ _) | (with_reducible refine Rd.set ?_ _ _ NeS.ne (by first | exact LeS.le | exact LeS.add _)))); omega)
  · go_wp2_with fail
    refine (odd_any w0 _ rb _ n (H4.out.up (by repeat (first | (with_reducible exact Ext.refl _) | (with_reducible refine Ext.up ?_ _) | (with_reducible refine Ext.alloc ?_ _) | (with_reducible refine Ext.drew ?_) | (with_reducible refine Ext.setRow ?_ (by first | exact LeS.le | exact LeS.add _ | (simp; done) | (simp; omega)) _) | (with_reducible refine Ext.setCell ?_ (by first | exact LeS.le | exact LeS.add _ | (simp; done) | (simp; omega)) _)))) (by omega) (by omega) (by omega)).mono ?_; rintro e w' ⟨bo, rfl, hbo, ⟨z5, rfl⟩, hr⟩
    have H5 := Lib.hid hr; clear hr
    rcases bo with _ | _
    · go_wp2_with fail
      refine bodyPost_ret (v := .agg #[.int .i64 2, .int .i64 a, .int .i64 b, .int .i64 v]) (by simp [results, Try.results67, go_sem]) rfl ?_
      refine ⟨⟨2, a, b, v⟩, rfl, fun _ => by simp [Actn.ok, kindOk, inR]; omega, ExtR.of (by repeat (first | (with_reducible exact grownBy_refl _ _) | (with_reducible refine GB.setNew ?_ (by first | exact LeS.le | exact LeS.add _ | (simp; done) | (simp; omega)) _ _) | (with_reducible refine GB.alloc ?_ _) | (with_reducible refine GB.drew ?_) | (with_reducible refine GB.upR ?_ _) | (with_reducible refine GB.up ?_ _))), ?_⟩
      (refine Rd.mono (a := ?_) ?_ ?_; rotate_left; (repeat (first | (with_reducible exact H5.out) | (with_reducible refine Rd.alloc ?_ _) | (with_reducible refine Rd.set ?_ _ _ NeS.ne (by first | exact LeS.le | exact LeS.add _)))); omega)
    · have hn : n ≠ 0 := fun e => by cases hbo e
      go_wp2_with fail
      refine (pick_any w0 _ rb _ 4 H5.out (by omega) (by omega) (by omega)).mono ?_; rintro e w' ⟨q, rfl, q0, q1, q2, ⟨z6, rfl⟩, hr⟩
      have H6 := Lib.hid hr; clear hr
      have hq1 := q1 (by omega)
      clear q1 q2
      have hq : q = 0 ∨ q = 1 ∨ q = 2 ∨ q = 3 := by omega
      rcases hq with rfl | rfl | rfl | rfl
      · go_wp2_with fail
        refine (pick_any w0 _ rb _ 2 (H6.out.up (by repeat (first | (with_reducible exact Ext.refl _) | (with_reducible refine Ext.up ?_ _) | (with_reducible refine Ext.alloc ?_ _) | (with_reducible refine Ext.drew ?_) | (with_reducible refine Ext.setRow ?_ (by first | exact LeS.le | exact LeS.add _ | (simp; done) | (simp; omega)) _) | (with_reducible refine Ext.setCell ?_ (by first | exact LeS.le | exact LeS.add _ | (simp; done) | (simp; omega)) _)))) (by omega) (by omega) (by omega)).mono ?_; rintro e w' ⟨r, rfl, r0, r1, r2, ⟨z7, rfl⟩, hr⟩
        have H7 := Lib.hid hr; clear hr
        have hr1 := r1 (by omega)
        clear r1 r2
        obtain ⟨u, hu⟩ : ∃ u, z7.val.cell? ⟨z6.val.heap.size, r.toNat, none⟩ = some (.int .i64 u) := by
          have hr : r = 0 ∨ r = 1 := by omega
          rcases hr with rfl | rfl
          · exact ⟨0, by go_simp⟩
          · exact ⟨7, by go_simp⟩
        go_wp2_with fail
        refine bodyPost_ret (v := .agg #[.int .i64 u, .int .i64 a, .int .i64 b, .int .i64 v]) (by simp [results, Try.results67, go_sem]) rfl ?_
        refine ⟨⟨u, a, b, v⟩, rfl, fun e => absurd e hn, ExtR.of (by repeat (first | (with_reducible exact grownBy_refl _ _) | (with_reducible refine GB.setNew ?_ (by first | exact LeS.le | exact LeS.add _ | (simp; done) | (simp; omega)) _ _) | (with_reducible refine GB.alloc ?_ _) | (with_reducible refine GB.drew ?_) | (with_reducible refine GB.upR ?_ _) | (with_reducible refine GB.up ?_ _))), ?_⟩
        (refine Rd.mono (a := ?_) ?_ ?_; rotate_left; (repeat (first | (with_reducible exact H7.out) | (with_reducible refine Rd.alloc ?_ _) | (with_reducible refine Rd.set ?_ _ _ NeS.ne (by first | exact LeS.le | exact LeS.add _)))); omega)
      · go_wp2_with fail
        refine (pick_any w0 _ rb _ 2 (H6.out.up (by repeat (first | (with_reducible exact Ext.refl _) | (with_reducible refine Ext.up ?_ _) | (with_reducible refine Ext.alloc ?_ _) | (with_reducible refine Ext.drew ?_) | (with_reducible refine Ext.setRow ?_ (by first | exact LeS.le | exact LeS.add _ | (simp; done) | (simp; omega)) _) | (with_reducible refine Ext.setCell ?_ (by first | exact LeS.le | exact LeS.add _ | (simp; done) | (simp; omega)) _)))) (by omega) (by omega) (by omega)).mono ?_; rintro e w' ⟨r, rfl, r0, r1, r2, ⟨z7, rfl⟩, hr⟩
        have H7 := Lib.hid hr; clear hr
        have hr1 := r1 (by omega)
        clear r1 r2
        obtain ⟨u, hu⟩ : ∃ u, z7.val.cell? ⟨z6.val.heap.size, r.toNat, none⟩ = some (.int .i64 u) := by
          have hr : r = 0 ∨ r = 1 := by omega
          rcases hr with rfl | rfl
          · exact ⟨-1, by go_simp⟩
          · exact ⟨32, by go_simp⟩
        go_wp2_with fail
        refine bodyPost_ret (v := .agg #[.int .i64 2, .int .i64 u, .int .i64 b, .int .i64 v]) (by simp [results, Try.results67, go_sem]) rfl ?_
        refine ⟨⟨2, u, b, v⟩, rfl, fun e => absurd e hn, ExtR.of (by repeat (first | (with_reducible exact grownBy_refl _ _) | (with_reducible refine GB.setNew ?_ (by first | exact LeS.le | exact LeS.add _ | (simp; done) | (simp; omega)) _ _) | (with_reducible refine GB.alloc ?_ _) | (with_reducible refine GB.drew ?_) | (with_reducible refine GB.upR ?_ _) | (with_reducible refine GB.up ?_ _))), ?_⟩
        (refine Rd.mono (a := ?_) ?_ ?_; rotate_left; (repeat (first | (with_reducible exact H7.out) | (with_reducible refine Rd.alloc ?_ _) | (with_reducible refine Rd.set ?_ _ _ NeS.ne (by first | exact LeS.le | exact LeS.add _)))); omega)
      · go_wp2_with fail
        refine (pick_any w0 _ rb _ 2 (H6.out.up (by repeat (first | (with_reducible exact Ext.refl _) | (with_reducible refine Ext.up ?_ _) | (with_reducible refine Ext.alloc ?_ _) | (with_reducible refine Ext.drew ?_) | (with_reducible refine Ext.setRow ?_ (by first | exact LeS.le | exact LeS.add _ | (simp; done) | (simp; omega)) _) | (with_reducible refine Ext.setCell ?_ (by first | exact LeS.le | exact LeS.add _ | (simp; done) | (simp; omega)) _)))) (by omega) (by omega) (by omega)).mono ?_; rintro e w' ⟨r, rfl, r0, r1, r2, ⟨z7, rfl⟩, hr⟩
        have H7 := Lib.hid hr; clear hr
        have hr1 := r1 (by omega)
        clear r1 r2
        obtain ⟨u, hu⟩ : ∃ u, z7.val.cell? ⟨z6.val.heap.size, r.toNat, none⟩ = some (.int .i64 u) := by
          have hr : r = 0 ∨ r = 1 := by omega
          rcases hr with rfl | rfl
          · exact ⟨-1, by go_simp⟩
          · exact ⟨1000001, by go_simp⟩
        go_wp2_with fail
        refine bodyPost_ret (v := .agg #[.int .i64 2, .int .i64 a, .int .i64 b, .int .i64 u]) (by simp [results, Try.results67, go_sem]) rfl ?_
        refine ⟨⟨2, a, b, u⟩, rfl, fun e => absurd e hn, ExtR.of (by repeat (first | (with_reducible exact grownBy_refl _ _) | (with_reducible refine GB.setNew ?_ (by first | exact LeS.le | exact LeS.add _ | (simp; done) | (simp; omega)) _ _) | (with_reducible refine GB.alloc ?_ _) | (with_reducible refine GB.drew ?_) | (with_reducible refine GB.upR ?_ _) | (with_reducible refine GB.up ?_ _))), ?_⟩
        (refine Rd.mono (a := ?_) ?_ ?_; rotate_left; (repeat (first | (with_reducible exact H7.out) | (with_reducible refine Rd.alloc ?_ _) | (with_reducible refine Rd.set ?_ _ _ NeS.ne (by first | exact LeS.le | exact LeS.add _)))); omega)
      · go_wp2_with fail
        refine bodyPost_ret (v := .agg #[.int .i64 1, .int .i64 0, .int .i64 1, .int .i64 0]) (by simp [results, Try.results67, go_sem]) rfl ?_
        refine ⟨⟨1, 0, 1, 0⟩, rfl, fun e => absurd e hn, ExtR.of (by repeat (first | (with_reducible exact grownBy_refl _ _) | (with_reducible refine GB.setNew ?_ (by first | exact LeS.le | exact LeS.add _ | (simp; done) | (simp; omega)) _ _) | (with_reducible refine GB.alloc ?_ _) | (with_reducible refine GB.drew ?_) | (with_reducible refine GB.upR ?_ _) | (with_reducible refine GB.up ?_ _))), ?_⟩
        (refine Rd.mono (a := ?_) ?_ ?_; rotate_left; (repeat (first | (with_reducible exact H6.out) | (with_reducible refine Rd.alloc ?_ _) | (with_reducible refine Rd.set ?_ _ _ NeS.ne (by first | exact LeS.le | exact LeS.add _)))); omega)
  · go_wp2_with fail
    refine (odd_any w0 _ rb _ n (H4.out.up (by repeat (first | (with_reducible exact Ext.refl _) | (with_reducible refine Ext.up ?_ _) | (with_reducible refine Ext.alloc ?_ _) | (with_reducible refine Ext.drew ?_) | (with_reducible refine Ext.setRow ?_ (by first | exact LeS.le | exact LeS.add _ | (simp; done) | (simp; omega)) _) | (with_reducible refine Ext.setCell ?_ (by first | exact LeS.le | exact LeS.add _ | (simp; done) | (simp; omega)) _)))) (by omega) (by omega) (by omega)).mono ?_; rintro e w' ⟨bo, rfl, hbo, ⟨z5, rfl⟩, hr⟩
    have H5 := Lib.hid hr; clear hr
    rcases bo with _ | _
    · go_wp2_with fail
      refine bodyPost_ret (v := .agg #[.int .i64 3, .int .i64 a, .int .i64 b, .int .i64 0]) (by simp [results, Try.results67, go_sem]) rfl ?_
      refine ⟨⟨3, a, b, 0⟩, rfl, fun _ => by simp [Actn.ok, kindOk, inR]; omega, ExtR.of (by repeat (first | (with_reducible exact grownBy_refl _ _) | (with_reducible refine GB.setNew ?_ (by first | exact LeS.le | exact LeS.add _ | (simp; done) | (simp; omega)) _ _) | (with_reducible refine GB.alloc ?_ _) | (with_reducible refine GB.drew ?_) | (with_reducible refine GB.upR ?_ _) | (with_reducible refine GB.up ?_ _))), ?_⟩
      (refine Rd.mono (a := ?_) ?_ ?_; rotate_left; (repeat (first | (with_reducible exact H5.out) | (with_reducible refine Rd.alloc ?_ _) | (with_reducible refine Rd.set ?_ _ _ NeS.ne (by first | exact LeS.le | exact LeS.add _)))); omega)
    · have hn : n ≠ 0 := fun e => by cases hbo e
      go_wp2_with fail
      refine (pick_any w0 _ rb _ 4 H5.out (by omega) (by omega) (by omega)).mono ?_; rintro e w' ⟨q, rfl, q0, q1, q2, ⟨z6, rfl⟩, hr⟩
      have H6 := Lib.hid hr; clear hr
      have hq1 := q1 (by omega)
      clear q1 q2
      have hq : q = 0 ∨ q = 1 ∨ q = 2 ∨ q = 3 := by omega
      rcases hq with rfl | rfl | rfl | rfl
      · go_wp2_with fail
        refine (pick_any w0 _ rb _ 2 (H6.out.up (by repeat (first | (with_reducible exact Ext.refl _) | (with_reducible refine Ext.up ?_ _) | (with_reducible refine Ext.alloc ?_ _) | (with_reducible refine Ext.drew ?_) | (with_reducible refine Ext.setRow ?_ (by first | exact LeS.le | exact LeS.add _ | (simp; done) | (simp; omega)) _) | (with_reducible refine Ext.setCell ?_ (by first | exact LeS.le | exact LeS.add _ | (simp; done) | (simp; omega)) _)))) (by omega) (by omega) (by omega)).mono ?_; rintro e w' ⟨r, rfl, r0, r1, r2, ⟨z7, rfl⟩, hr⟩
        have H7 := Lib.hid hr; clear hr
        have hr1 := r1 (by omega)
        clear r1 r2
        obtain ⟨u, hu⟩ : ∃ u, z7.val.cell? ⟨z6.val.heap.size, r.toNat, none⟩ = some (.int .i64 u) := by
          have hr : r = 0 ∨ r = 1 := by omega
          rcases hr with rfl | rfl
          · exact ⟨0, by go_simp⟩
          · exact ⟨7, by go_simp⟩
        go_wp2_with fail
        refine bodyPost_ret (v := .agg #[.int .i64 u, .int .i64 a, .int .i64 b, .int .i64 0]) (by simp [results, Try.results67, go_sem]) rfl ?_
        refine ⟨⟨u, a, b, 0⟩, rfl, fun e => absurd e hn, ExtR.of (by repeat (first | (with_reducible exact grownBy_refl _ _) | (with_reducible refine GB.setNew ?_ (by first | exact LeS.le | exact LeS.add _ | (simp; done) | (simp; omega)) _ _) | (with_reducible refine GB.alloc ?_ _) | (with_reducible refine GB.drew ?_) | (with_reducible refine GB.upR ?_ _) | (with_reducible refine GB.up ?_ _))), ?_⟩
        (refine Rd.mono (a := ?_) ?_ ?_; rotate_left; (repeat (first | (with_reducible exact H7.out) | (with_reducible refine Rd.alloc ?_ _) | (with_reducible refine Rd.set ?_ _ _ NeS.ne (by first | exact LeS.le | exact LeS.add _)))); omega)
      · go_wp2_with fail
        refine (pick_any w0 _ rb _ 2 (H6.out.up (by repeat (first | (with_reducible exact Ext.refl _) | (with_reducible refine Ext.up ?_ _) | (with_reducible refine Ext.alloc ?_ _) | (with_reducible refine Ext.drew ?_) | (with_reducible refine Ext.setRow ?_ (by first | exact LeS.le | exact LeS.add _ | (simp; done) | (simp; omega)) _) | (with_reducible refine Ext.setCell ?_ (by first | exact LeS.le | exact LeS.add _ | (simp; done) | (simp; omega)) _)))) (by omega) (by omega) (by omega)).mono ?_; rintro e w' ⟨r, rfl, r0, r1, r2, ⟨z7, rfl⟩, hr⟩
        have H7 := Lib.hid hr; clear hr
        have hr1 := r1 (by omega)
        clear r1 r2
        obtain ⟨u, hu⟩ : ∃ u, z7.val.cell? ⟨z6.val.heap.size, r.toNat, none⟩ = some (.int .i64 u) := by
          have hr : r = 0 ∨ r = 1 := by omega
          rcases hr with rfl | rfl
          · exact ⟨-1, by go_simp⟩
          · exact ⟨32, by go_simp⟩
        go_wp2_with fail
        refine bodyPost_ret (v := .agg #[.int .i64 3, .int .i64 u, .int .i64 b, .int .i64 0]) (by simp [results, Try.results67, go_sem]) rfl ?_
        refine ⟨⟨3, u, b, 0⟩, rfl, fun e => absurd e hn, ExtR.of (by repeat (first | (with_reducible exact grownBy_refl _ _) | (with_reducible refine GB.setNew ?_ (by first | exact LeS.le | exact LeS.add _ | (simp; done) | (simp; omega)) _ _) | (with_reducible refine GB.alloc ?_ _) | (with_reducible refine GB.drew ?_) | (with_reducible refine GB.upR ?_ _) | (with_reducible refine GB.up ?_ _))), ?_⟩
        (refine Rd.mono (a := ?_) ?_ ?_; rotate_left; (repeat (first | (with_reducible exact H7.out) | (with_reducible refine Rd.alloc ?_ _) | (with_reducible refine Rd.set ?_ _ _ NeS.ne (by first | exact LeS.le | exact LeS.add _)))); omega)
      · go_wp2_with fail
        refine (pick_any w0 _ rb _ 2 (H6.out.up (by repeat (first | (with_reducible exact Ext.refl _) | (with_reducible refine Ext.up ?_ _) | (with_reducible refine Ext.alloc ?_ _) | (with_reducible refine Ext.drew ?_) | (with_reducible refine Ext.setRow ?_ (by first | exact LeS.le | exact LeS.add _ | (simp; done) | (simp; omega)) _) | (with_reducible refine Ext.setCell ?_ (by first | exact LeS.le | exact LeS.add _ | (simp; done) | (simp; omega)) _)))) (by omega) (by omega) (by omega)).mono ?_; rintro e w' ⟨r, rfl, r0, r1, r2, ⟨z7, rfl⟩, hr⟩
        have H7 := Lib.hid hr; clear hr
        have hr1 := r1 (by omega)
        clear r1 r2
        obtain ⟨u, hu⟩ : ∃ u, z7.val.cell? ⟨z6.val.heap.size, r.toNat, none⟩ = some (.int .i64 u) := by
          have hr : r = 0 ∨ r = 1 := by omega
          rcases hr with rfl | rfl
          · exact ⟨-1, by go_simp⟩
          · exact ⟨1000001, by go_simp⟩
        go_wp2_with fail
        refine bodyPost_ret (v := .agg #[.int .i64 3, .int .i64 a, .int .i64 b, .int .i64 u]) (by simp [results, Try.results67, go_sem]) rfl ?_
        refine ⟨⟨3, a, b, u⟩, rfl, fun e => absurd e hn, ExtR.of (by repeat (first | (with_reducible exact grownBy_refl _ _) | (with_reducible refine GB.setNew ?_ (by first | exact LeS.le | exact LeS.add _ | (simp; done) | (simp; omega)) _ _) | (with_reducible refine GB.alloc ?_ _) | (with_reducible refine GB.drew ?_) | (with_reducible refine GB.upR ?_ _) | (with_reducible refine GB.up ?_ _))), ?_⟩
        (refine Rd.mono (a := ?_) ?_ ?_; rotate_left; (repeat (first | (with_reducible exact H7.out) | (with_reducible refine Rd.alloc ?_ _) | (with_reducible refine Rd.set ?_ _ _ NeS.ne (by first | exact LeS.le | exact LeS.add _)))); omega)
      · go_wp2_with fail
        refine bodyPost_ret (v := .agg #[.int .i64 1, .int .i64 0, .int .i64 1, .int .i64 0]) (by simp [results, Try.results67, go_sem]) rfl ?_
        refine ⟨⟨1, 0, 1, 0⟩, rfl, fun e => absurd e hn, ExtR.of (by repeat (first | (with_reducible exact grownBy_refl _ _) | (with_reducible refine GB.setNew ?_ (by first | exact LeS.le | exact LeS.add _ | (simp; done) | (simp; omega)) _ _) | (with_reducible refine GB.alloc ?_ _) | (with_reducible refine GB.drew ?_) | (with_reducible refine GB.upR ?_ _) | (with_reducible refine GB.up ?_ _))), ?_⟩
        (refine Rd.mono (a := ?_) ?_ ?_; rotate_left; (repeat (first | (with_reducible exact H6.out) | (with_reducible refine Rd.alloc ?_ _) | (with_reducible refine Rd.set ?_ _ _ NeS.ne (by first | exact LeS.le | exact LeS.add _)))); omega)
  · go_wp2_with fail
    refine (odd_any w0 _ rb _ n (H4.out.up (by repeat (first | (with_reducible exact Ext.refl _) | (with_reducible refine Ext.up ?_ _) | (with_reducible refine Ext.alloc ?_ _) | (with_reducible refine Ext.drew ?_) | (with_reducible refine Ext.setRow ?_ (by first | exact LeS.le | exact LeS.add _ | (simp; done) | (simp; omega)) _) | (with_reducible refine Ext.setCell ?_ (by first | exact LeS.le | exact LeS.add _ | (simp; done) | (simp; omega)) _)))) (by omega) (by omega) (by omega)).mono ?_; rintro e w' ⟨bo, rfl, hbo, ⟨z5, rfl⟩, hr⟩
    have H5 := Lib.hid hr; clear hr
    rcases bo with _ | _
    · go_wp2_with fail
      refine bodyPost_ret (v := .agg #[.int .i64 4, .int .i64 a, .int .i64 b, .int .i64 0]) (by simp [results, Try.results67, go_sem]) rfl ?_
      refine ⟨⟨4, a, b, 0⟩, rfl, fun _ => by simp [Actn.ok, kindOk, inR]; omega, ExtR.of (by repeat (first | (with_reducible exact grownBy_refl _ _) | (with_reducible refine GB.setNew ?_ (by first | exact LeS.le | exact LeS.add _ | (simp; done) | (simp; omega)) _ _) | (with_reducible refine GB.alloc ?_ _) | (with_reducible refine GB.drew ?_) | (with_reducible refine GB.upR ?_ _) | (with_reducible refine GB.up ?_ _))), ?_⟩
      (refine Rd.mono (a := ?_) ?_ ?_; rotate_left; (repeat (first | (with_reducible exact H5.out) | (with_reducible refine Rd.alloc ?_ _) | (with_reducible refine Rd.set ?_ _ _ NeS.ne (by first | exact LeS.le | exact LeS.add _)))); omega)
    · have hn : n ≠ 0 := fun e => by cases hbo e
      go_wp2_with fail
      refine (pick_any w0 _ rb _ 4 H5.out (by omega) (by omega) (by omega)).mono ?_; rintro e w' ⟨q, rfl, q0, q1, q2, ⟨z6, rfl⟩, hr⟩
      have H6 := Lib.hid hr; clear hr
      have hq1 := q1 (by omega)
      clear q1 q2
      have hq : q = 0 ∨ q = 1 ∨ q = 2 ∨ q = 3 := by omega
      rcases hq with rfl | rfl | rfl | rfl
      · go_wp2_with fail
        refine (pick_any w0 _ rb _ 2 (H6.out.up (by repeat (first | (with_reducible exact Ext.refl _) | (with_reducible refine Ext.up ?_ _) | (with_reducible refine Ext.alloc ?_ _) | (with_reducible refine Ext.drew ?_) | (with_reducible refine Ext.setRow ?_ (by first | exact LeS.le | exact LeS.add _ | (simp; done) | (simp; omega)) _) | (with_reducible refine Ext.setCell ?_ (by first | exact LeS.le | exact LeS.add _ | (simp; done) | (simp; omega)) _)))) (by omega) (by omega) (by omega)).mono ?_; rintro e w' ⟨r, rfl, r0, r1, r2, ⟨z7, rfl⟩, hr⟩
        have H7 := Lib.hid hr; clear hr
        have hr1 := r1 (by omega)
        clear r1 r2
        obtain ⟨u, hu⟩ : ∃ u, z7.val.cell? ⟨z6.val.heap.size, r.toNat, none⟩ = some (.int .i64 u) := by
          have hr : r = 0 ∨ r = 1 := by omega
          rcases hr with rfl | rfl
          · exact ⟨0, by go_simp⟩
          · exact ⟨7, by go_simp⟩
        go_wp2_with fail
        refine bodyPost_ret (v := .agg #[.int .i64 u, .int .i64 a, .int .i64 b, .int .i64 0]) (by simp [results, Try.results67, go_sem]) rfl ?_
        refine ⟨⟨u, a, b, 0⟩, rfl, fun e => absurd e hn, ExtR.of (by repeat (first | (with_reducible exact grownBy_refl _ _) | (with_reducible refine GB.setNew ?_ (by first | exact LeS.le | exact LeS.add _ | (simp; done) | (simp; omega)) _ _) | (with_reducible refine GB.alloc ?_ _) | (with_reducible refine GB.drew ?_) | (with_reducible refine GB.upR ?_ _) | (with_reducible refine GB.up ?_ _))), ?_⟩
        (refine Rd.mono (a := ?_) ?_ ?_; rotate_left; (repeat (first | (with_reducible exact H7.out) | (with_reducible refine Rd.alloc ?_ _) | (with_reducible refine Rd.set ?_ _ _ NeS.ne (by first | exact LeS.le | exact LeS.add _)))); omega)
      · go_wp2_with fail
        refine (pick_any w0 _ rb _ 2 (H6.out.up (by repeat (first | (with_reducible exact Ext.refl _) | (with_reducible refine Ext.up ?_ _) | (with_reducible refine Ext.alloc ?_ _) | (with_reducible refine Ext.drew ?_) | (with_reducible refine Ext.setRow ?_ (by first | exact LeS.le | exact LeS.add _ | (simp; done) | (simp; omega)) _) | (with_reducible refine Ext.setCell ?_ (by first | exact LeS.le | exact LeS.add _ | (simp; done) | (simp; omega)) _)))) (by omega) (by omega) (by omega)).mono ?_; rintro e w' ⟨r, rfl, r0, r1, r2, ⟨z7, rfl⟩, hr⟩
        have H7 := Lib.hid hr; clear hr
        have hr1 := r1 (by omega)
        clear r1 r2
        obtain ⟨u, hu⟩ : ∃ u, z7.val.cell? ⟨z6.val.heap.size, r.toNat, none⟩ = some (.int .i64 u) := by
          have hr : r = 0 ∨ r = 1 := by omega
          rcases hr with rfl | rfl
          · exact ⟨-1, by go_simp⟩
          · exact ⟨32, by go_simp⟩
        go_wp2_with fail
        refine bodyPost_ret (v := .agg #[.int .i64 4, .int .i64 u, .int .i64 b, .int .i64 0]) (by simp [results, Try.results67, go_sem]) rfl ?_
        refine ⟨⟨4, u, b, 0⟩, rfl, fun e => absurd e hn, ExtR.of (by repeat (first | (with_reducible exact grownBy_refl _ _) | (with_reducible refine GB.setNew ?_ (by first | exact LeS.le | exact LeS.add _ | (simp; done) | (simp; omega)) _ _) | (with_reducible refine GB.alloc ?_ _) | (with_reducible refine GB.drew ?_) | (with_reducible refine GB.upR ?_ _) | (with_reducible refine GB.up ?_ _))), ?_⟩
        (refine Rd.mono (a := ?_) ?_ ?_; rotate_left; (repeat (first | (with_reducible exact H7.out) | (with_reducible refine Rd.alloc ?_ _) | (with_reducible refine Rd.set ?_ _ _ NeS.ne (by first | exact LeS.le | exact LeS.add _)))); omega)
      · go_wp2_with fail
        refine (pick_any w0 _ rb _ 2 (H6.out.up (by repeat (first | (with_reducible exact Ext.refl _) | (with_reducible refine Ext.up ?_ _) | (with_reducible refine Ext.alloc ?_ _) | (with_reducible refine Ext.drew ?_) | (with_reducible refine Ext.setRow ?_ (by first | exact LeS.le | exact LeS.add _ | (simp; done) | (simp; omega)) _) | (with_reducible refine Ext.setCell ?_ (by first | exact LeS.le | exact LeS.add _ | (simp; done) | (simp; omega)) _)))) (by omega) (by omega) (by omega)).mono ?_; rintro e w' ⟨r, rfl, r0, r1, r2, ⟨z7, rfl⟩, hr⟩
        have H7 := Lib.hid hr; clear hr
        have hr1 := r1 (by omega)
        clear r1 r2
        obtain ⟨u, hu⟩ : ∃ u, z7.val.cell? ⟨z6.val.heap.size, r.toNat, none⟩ = some (.int .i64 u) := by
          have hr : r = 0 ∨ r = 1 := by omega
          rcases hr with rfl | rfl
          · exact ⟨-1, by go_simp⟩
          · exact ⟨1000001, by go_simp⟩
        go_wp2_with fail
        refine bodyPost_ret (v := .agg #[.int .i64 4, .int .i64 a, .int .i64 b, .int .i64 u]) (by simp [results, Try.results67, go_sem]) rfl ?_
        refine ⟨⟨4, a, b, u⟩, rfl, fun e => absurd e hn, ExtR.of (by repeat (first | (with_reducible exact grownBy_refl _ _) | (with_reducible refine GB.setNew ?_ (by first | exact LeS.le | exact LeS.add _ | (simp; done) | (simp; omega)) _ _) | (with_reducible refine GB.alloc ?_ _) | (with_reducible refine GB.drew ?_) | (with_reducible refine GB.upR ?_ _) | (with_reducible refine GB.up ?_ _))), ?_⟩
        (refine Rd.mono (a := ?_) ?_ ?_; rotate_left; (repeat (first | (with_reducible exact H7.out) | (with_reducible refine Rd.alloc ?_ _) | (with_reducible refine Rd.set ?_ _ _ NeS.ne (by first | exact LeS.le | exact LeS.add _)))); omega)
      · go_wp2_with fail
        refine bodyPost_ret (v := .agg #[.int .i64 1, .int .i64 0, .int .i64 1, .int .i64 0]) (by simp [results, Try.results67, go_sem]) rfl ?_
        refine ⟨⟨1, 0, 1, 0⟩, rfl, fun e => absurd e hn, ExtR.of (by repeat (first | (with_reducible exact grownBy_refl _ _) | (with_reducible refine GB.setNew ?_ (by first | exact LeS.le | exact LeS.add _ | (simp; done) | (simp; omega)) _ _) | (with_reducible refine GB.alloc ?_ _) | (with_reducible refine GB.drew ?_) | (with_reducible refine GB.upR ?_ _) | (with_reducible refine GB.up ?_ _))), ?_⟩
        (refine Rd.mono (a := ?_) ?_ ?_; rotate_left; (repeat (first | (with_reducible exact H6.out) | (with_reducible refine Rd.alloc ?_ _) | (with_reducible refine Rd.set ?_ _ _ NeS.ne (by first | exact LeS.le | exact LeS.add _)))); omega)
  · go_wp2_with fail
    refine (odd_any w0 _ rb _ n (H4.out.up (by repeat (first | (with_reducible exact Ext.refl _) | (with_reducible refine Ext.up ?_ _) | (with_reducible refine Ext.alloc ?_ _) | (with_reducible refine Ext.drew ?_) | (with_reducible refine Ext.setRow ?_ (by first | exact LeS.le | exact LeS.add _ | (simp; done) | (simp; omega)) _) | (with_reducible refine Ext.setCell ?_ (by first | exact LeS.le | exact LeS.add _ | (simp; done) | (simp; omega)) _)))) (by omega) (by omega) (by omega)).mono ?_; rintro e w' ⟨bo, rfl, hbo, ⟨z5, rfl⟩, hr⟩
    have H5 := Lib.hid hr; clear hr
    rcases bo with _ | _
    · go_wp2_with fail
      refine bodyPost_ret (v := .agg #[.int .i64 5, .int .i64 a, .int .i64 b, .int .i64 0]) (by simp [results, Try.results67, go_sem]) rfl ?_
      refine ⟨⟨5, a, b, 0⟩, rfl, fun _ => by simp [Actn.ok, kindOk, inR]; omega, ExtR.of (by repeat (first | (with_reducible exact grownBy_refl _ _) | (with_reducible refine GB.setNew ?_ (by first | exact LeS.le | exact LeS.add _ | (simp; done) | (simp; omega)) _ _) | (with_reducible refine GB.alloc ?_ _) | (with_reducible refine GB.drew ?_) | (with_reducible refine GB.upR ?_ _) | (with_reducible refine GB.up ?_ _))), ?_⟩
      (refine Rd.mono (a := ?_) ?_ ?_; rotate_left; (repeat (first | (with_reducible exact H5.out) | (with_reducible refine Rd.alloc ?_ _) | (with_reducible refine Rd.set ?_ _ _ NeS.ne (by first | exact LeS.le | exact LeS.add _)))); omega)
    · have hn : n ≠ 0 := fun e => by cases hbo e
      go_wp2_with fail
      refine (pick_any w0 _ rb _ 4 H5.out (by omega) (by omega) (by omega)).mono ?_; rintro e w' ⟨q, rfl, q0, q1, q2, ⟨z6, rfl⟩, hr⟩
      have H6 := Lib.hid hr; clear hr
      have hq1 := q1 (by omega)
      clear q1 q2
      have hq : q = 0 ∨ q = 1 ∨ q = 2 ∨ q = 3 := by omega
      rcases hq with rfl | rfl | rfl | rfl
      · go_wp2_with fail
        refine (pick_any w0 _ rb _ 2 (H6.out.up (by repeat (first | (with_reducible exact Ext.refl _) | (with_reducible refine Ext.up ?_ _) | (with_reducible refine Ext.alloc ?_ _) | (with_reducible refine Ext.drew ?_) | (with_reducible refine Ext.setRow ?_ (by first | exact LeS.le | exact LeS.add _ | (simp; done) | (simp; omega)) _) | (with_reducible refine Ext.setCell ?_ (by first | exact LeS.le | exact LeS.add _ | (simp; done) | (simp; omega)) _)))) (by omega) (by omega) (by omega)).mono ?_; rintro e w' ⟨r, rfl, r0, r1, r2, ⟨z7, rfl⟩, hr⟩
        have H7 := Lib.hid hr; clear hr
        have hr1 := r1 (by omega)
        clear r1 r2
        obtain ⟨u, hu⟩ : ∃ u, z7.val.cell? ⟨z6.val.heap.size, r.toNat, none⟩ = some (.int .i64 u) := by
          have hr : r = 0 ∨ r = 1 := by omega
          rcases hr with rfl | rfl
          · exact ⟨0, by go_simp⟩
          · exact ⟨7, by go_simp⟩
        go_wp2_with fail
        refine bodyPost_ret (v := .agg #[.int .i64 u, .int .i64 a, .int .i64 b, .int .i64 0]) (by simp [results, Try.results67, go_sem]) rfl ?_
        refine ⟨⟨u, a, b, 0⟩, rfl, fun e => absurd e hn, ExtR.of (by repeat (first | (with_reducible exact grownBy_refl _ _) | (with_reducible refine GB.setNew ?_ (by first | exact LeS.le | exact LeS.add _ | (simp; done) | (simp; omega)) _ _) | (with_reducible refine GB.alloc ?_ _) | (with_reducible refine GB.drew ?_) | (with_reducible refine GB.upR ?_ _) | (with_reducible refine GB.up ?_ _))), ?_⟩
        (refine Rd.mono (a := ?_) ?_ ?_; rotate_left; (repeat (first | (with_reducible exact H7.out) | (with_reducible refine Rd.alloc ?_ _) | (with_reducible refine Rd.set ?_ _ _ NeS.ne (by first | exact LeS.le | exact LeS.add _)))); omega)
      · go_wp2_with fail
        refine (pick_any w0 _ rb _ 2 (H6.out.up (by repeat (first | (with_reducible exact Ext.refl _) | (with_reducible refine Ext.up ?_ _) | (with_reducible refine Ext.alloc ?_ _) | (with_reducible refine Ext.drew ?_) | (with_reducible refine Ext.setRow ?_ (by first | exact LeS.le | exact LeS.add _ | (simp; done) | (simp; omega)) _) | (with_reducible refine Ext.setCell ?_ (by first | exact LeS.le | exact LeS.add _ | (simp; done) | (simp; omega)) _)))) (by omega) (by omega) (by omega)).mono ?_; rintro e w' ⟨r, rfl, r0, r1, r2, ⟨z7, rfl⟩, hr⟩
        have H7 := Lib.hid hr; clear hr
        have hr1 := r1 (by omega)
        clear r1 r2
        obtain ⟨u, hu⟩ : ∃ u, z7.val.cell? ⟨z6.val.heap.size, r.toNat, none⟩ = some (.int .i64 u) := by
          have hr : r = 0 ∨ r = 1 := by omega
          rcases hr with rfl | rfl
          · exact ⟨-1, by go_simp⟩
          · exact ⟨32, by go_simp⟩
        go_wp2_with fail
        refine bodyPost_ret (v := .agg #[.int .i64 5, .int .i64 u, .int .i64 b, .int .i64 0]) (by simp [results, Try.results67, go_sem]) rfl ?_
        refine ⟨⟨5, u, b, 0⟩, rfl, fun e => absurd e hn, ExtR.of (by repeat (first | (with_reducible exact grownBy_refl _ _) | (with_reducible refine GB.setNew ?_ (by first | exact LeS.le | exact LeS.add _ | (simp; done) | (simp; omega)) _ _) | (with_reducible refine GB.alloc ?_ _) | (with_reducible refine GB.drew ?_) | (with_reducible refine GB.upR ?_ _) | (with_reducible refine GB.up ?_ _))), ?_⟩
        (refine Rd.mono (a := ?_) ?_ ?_; rotate_left; (repeat (first | (with_reducible exact H7.out) | (with_reducible refine Rd.alloc ?_ _) | (with_reducible refine Rd.set ?_ _ _ NeS.ne (by first | exact LeS.le | exact LeS.add _)))); omega)
      · go_wp2_with fail
        refine (pick_any w0 _ rb _ 2 (H6.out.up (by repeat (first | (with_reducible exact Ext.refl _) | (with_reducible refine Ext.up ?_ _) | (with_reducible refine Ext.alloc ?_ _) | (with_reducible refine Ext.drew ?_) | (with_reducible refine Ext.setRow ?_ (by first | exact LeS.le | exact LeS.add _ | (simp; done) | (simp; omega)) _) | (with_reducible refine Ext.setCell ?_ (by first | exact LeS.le | exact LeS.add _ | (simp; done) | (simp; omega)) _)))) (by omega) (by omega) (by omega)).mono ?_; rintro e w' ⟨r, rfl, r0, r1, r2, ⟨z7, rfl⟩, hr⟩
        have H7 := Lib.hid hr; clear hr
        have hr1 := r1 (by omega)
        clear r1 r2
        obtain ⟨u, hu⟩ : ∃ u, z7.val.cell? ⟨z6.val.heap.size, r.toNat, none⟩ = some (.int .i64 u) := by
          have hr : r = 0 ∨ r = 1 := by omega
          rcases hr with rfl | rfl
          · exact ⟨-1, by go_simp⟩
          · exact ⟨1000001, by go_simp⟩
        go_wp2_with fail
        refine bodyPost_ret (v := .agg #[.int .i64 5, .int .i64 a, .int .i64 b, .int .i64 u]) (by simp [results, Try.results67, go_sem]) rfl ?_
        refine ⟨⟨5, a, b, u⟩, rfl, fun e => absurd e hn, ExtR.of (by repeat (first | (with_reducible exact grownBy_refl _ _) | (with_reducible refine GB.setNew ?_ (by first | exact LeS.le | exact LeS.add _ | (simp; done) | (simp; omega)) _ _) | (with_reducible refine GB.alloc ?_ _) | (with_reducible refine GB.drew ?_) | (with_reducible refine GB.upR ?_ _) | (with_reducible refine GB.up ?_ _))), ?_⟩
        (refine Rd.mono (a := ?_) ?_ ?_; rotate_left; (repeat (first | (with_reducible exact H7.out) | (with_reducible refine Rd.alloc ?_ _) | (with_reducible refine Rd.set ?_ _ _ NeS.ne (by first | exact LeS.le | exact LeS.add _)))); omega)
      · go_wp2_with fail
        refine bodyPost_ret (v := .agg #[.int .i64 1, .int .i64 0, .int .i64 1, .int .i64 0]) (by simp [results, Try.results67, go_sem]) rfl ?_
        refine ⟨⟨1, 0, 1, 0⟩, rfl, fun e => absurd e hn, ExtR.of (by repeat (first | (with_reducible exact grownBy_refl _ _) | (with_reducible refine GB.setNew ?_ (by first | exact LeS.le | exact LeS.add _ | (simp; done) | (simp; omega)) _ _) | (with_reducible refine GB.alloc ?_ _) | (with_reducible refine GB.drew ?_) | (with_reducible refine GB.upR ?_ _) | (with_reducible refine GB.up ?_ _))), ?_⟩
        (refine Rd.mono (a := ?_) ?_ ?_; rotate_left; (repeat (first | (with_reducible exact H6.out) | (with_reducible refine Rd.alloc ?_ _) | (with_reducible refine Rd.set ?_ _ _ NeS.ne (by first | exact LeS.le | exact LeS.add _)))); omega)
  · go_wp2_with fail
    refine (odd_any w0 _ rb _ n (H4.out.up (by repeat (first | (with_reducible exact Ext.refl _) | (with_reducible refine Ext.up ?_ _) | (with_reducible refine Ext.alloc ?_ _) | (with_reducible refine Ext.drew ?_) | (with_reducible refine Ext.setRow ?_ (by first | exact LeS.le | exact LeS.add _ | (simp; done) | (simp; omega)) _) | (with_reducible refine Ext.setCell ?_ (by first | exact LeS.le | exact LeS.add _ | (simp; done) | (simp; omega)) _)))) (by omega) (by omega) (by omega)).mono ?_; rintro e w' ⟨bo, rfl, hbo, ⟨z5, rfl⟩, hr⟩
    have H5 := Lib.hid hr; clear hr
    rcases bo with _ | _
    · go_wp2_with fail
      refine bodyPost_ret (v := .agg #[.int .i64 6, .int .i64 a, .int .i64 0, .int .i64 v]) (by simp [results, Try.results67, go_sem]) rfl ?_
      refine ⟨⟨6, a, 0, v⟩, rfl, fun _ => by simp [Actn.ok, kindOk, inR]; omega, ExtR.of (by repeat (first | (with_reducible exact grownBy_refl _ _) | (with_reducible refine GB.setNew ?_ (by first | exact LeS.le | exact LeS.add _ | (simp; done) | (simp; omega)) _ _) | (with_reducible refine GB.alloc ?_ _) | (with_reducible refine GB.drew ?_) | (with_reducible refine GB.upR ?_ _) | (with_reducible refine GB.up ?_ _))), ?_⟩
      (refine Rd.mono (a := ?_) ?_ ?_; rotate_left; (repeat (first | (with_reducible exact H5.out) | (with_reducible refine Rd.alloc ?_ _) | (with_reducible refine Rd.set ?_ _ _ NeS.ne (by first | exact LeS.le | exact LeS.add _)))); omega)
    · have hn : n ≠ 0 := fun e => by cases hbo e
      go_wp2_with fail
      refine (pick_any w0 _ rb _ 4 H5.out (by omega) (by omega) (by omega)).mono ?_; rintro e w' ⟨q, rfl, q0, q1, q2, ⟨z6, rfl⟩, hr⟩
      have H6 := Lib.hid hr; clear hr
      have hq1 := q1 (by omega)
      clear q1 q2
      have hq : q = 0 ∨ q = 1 ∨ q = 2 ∨ q = 3 := by omega
      rcases hq with rfl | rfl | rfl | rfl
      · go_wp2_with fail
        refine (pick_any w0 _ rb _ 2 (H6.out.up (by repeat (first | (with_reducible exact Ext.refl _) | (with_reducible refine Ext.up ?_ _) | (with_reducible refine Ext.alloc ?_ _) | (with_reducible refine Ext.drew ?_) | (with_reducible refine Ext.setRow ?_ (by first | exact LeS.le | exact LeS.add _ | (simp; done) | (simp; omega)) _) | (with_reducible refine Ext.setCell ?_ (by first | exact LeS.le | exact LeS.add _ | (simp; done) | (simp; omega)) _)))) (by omega) (by omega) (by omega)).mono ?_; rintro e w' ⟨r, rfl, r0, r1, r2, ⟨z7, rfl⟩, hr⟩
        have H7 := Lib.hid hr; clear hr
        have hr1 := r1 (by omega)
        clear r1 r2
        obtain ⟨u, hu⟩ : ∃ u, z7.val.cell? ⟨z6.val.heap.size, r.toNat, none⟩ = some (.int .i64 u) := by
          have hr : r = 0 ∨ r = 1 := by omega
          rcases hr with rfl | rfl
          · exact ⟨0, by go_simp⟩
          · exact ⟨7, by go_simp⟩
        go_wp2_with fail
        refine bodyPost_ret (v := .agg #[.int .i64 u, .int .i64 a, .int .i64 0, .int .i64 v]) (by simp [results, Try.results67, go_sem]) rfl ?_
        refine ⟨⟨u, a, 0, v⟩, rfl, fun e => absurd e hn, ExtR.of (by repeat (first | (with_reducible exact grownBy_refl _ _) | (with_reducible refine GB.setNew ?_ (by first | exact LeS.le | exact LeS.add _ | (simp; done) | (simp; omega)) _ _) | (with_reducible refine GB.alloc ?_ _) | (with_reducible refine GB.drew ?_) | (with_reducible refine GB.upR ?_ _) | (with_reducible refine GB.up ?_ _))), ?_⟩
        (refine Rd.mono (a := ?_) ?_ ?_; rotate_left; (repeat (first | (with_reducible exact H7.out) | (with_reducible refine Rd.alloc ?_ _) | (with_reducible refine Rd.set ?_ _ _ NeS.ne (by first | exact LeS.le | exact LeS.add _)))); omega)
      · go_wp2_with fail
        refine (pick_any w0 _ rb _ 2 (H6.out.up (by repeat (first | (with_reducible exact Ext.refl _) | (with_reducible refine Ext.up ?_ _) | (with_reducible refine Ext.alloc ?_ _) | (with_reducible refine Ext.drew ?_) | (with_reducible refine Ext.setRow ?_ (by first | exact LeS.le | exact LeS.add _ | (simp; done) | (simp; omega)) _) | (with_reducible refine Ext.setCell ?_ (by first | exact LeS.le | exact LeS.add _ | (simp; done) | (simp; omega)) _)))) (by omega) (by omega) (by omega)).mono ?_; rintro e w' ⟨r, rfl, r0, r1, r2, ⟨z7, rfl⟩, hr⟩
        have H7 := Lib.hid hr; clear hr
        have hr1 := r1 (by omega)
        clear r1 r2
        obtain ⟨u, hu⟩ : ∃ u, z7.val.cell? ⟨z6.val.heap.size, r.toNat, none⟩ = some (.int .i64 u) := by
          have hr : r = 0 ∨ r = 1 := by omega
          rcases hr with rfl | rfl
          · exact ⟨-1, by go_simp⟩
          · exact ⟨32, by go_simp⟩
        go_wp2_with fail
        refine bodyPost_ret (v := .agg #[.int .i64 6, .int .i64 u, .int .i64 0, .int .i64 v]) (by simp [results, Try.results67, go_sem]) rfl ?_
        refine ⟨⟨6, u, 0, v⟩, rfl, fun e => absurd e hn, ExtR.of (by repeat (first | (with_reducible exact grownBy_refl _ _) | (with_reducible refine GB.setNew ?_ (by first | exact LeS.le | exact LeS.add _ | (simp; done) | (simp; omega)) _ _) | (with_reducible refine GB.alloc ?_ _) | (with_reducible refine GB.drew ?_) | (with_reducible refine GB.upR ?_ _) | (with_reducible refine GB.up ?_ _))), ?_⟩
        (refine Rd.mono (a := ?_) ?_ ?_; rotate_left; (repeat (first | (with_reducible exact H7.out) | (with_reducible refine Rd.alloc ?_ _) | (with_reducible refine Rd.set ?_ _ _ NeS.ne (by first | exact LeS.le | exact LeS.add _)))); omega)
      · go_wp2_with fail
        refine (pick_any w0 _ rb _ 2 (H6.out.up (by repeat (first | (with_reducible exact Ext.refl _) | (with_reducible refine Ext.up ?_ _) | (with_reducible refine Ext.alloc ?_ _) | (with_reducible refine Ext.drew ?_) | (with_reducible refine Ext.setRow ?_ (by first | exact LeS.le | exact LeS.add _ | (simp; done) | (simp; omega)) _) | (with_reducible refine Ext.setCell ?_ (by first | exact LeS.le | exact LeS.add _ | (simp; done) | (simp; omega)) _)))) (by omega) (by omega) (by omega)).mono ?_; rintro e w' ⟨r, rfl, r0, r1, r2, ⟨z7, rfl⟩, hr⟩
        have H7 := Lib.hid hr; clear hr
        have hr1 := r1 (by omega)
        clear r1 r2
        obtain ⟨u, hu⟩ : ∃ u, z7.val.cell? ⟨z6.val.heap.size, r.toNat, none⟩ = some (.int .i64 u) := by
          have hr : r = 0 ∨ r = 1 := by omega
          rcases hr with rfl | rfl
          · exact ⟨-1, by go_simp⟩
          · exact ⟨1000001, by go_simp⟩
        go_wp2_with fail
        refine bodyPost_ret (v := .agg #[.int .i64 6, .int .i64 a, .int .i64 0, .int .i64 u]) (by simp [results, Try.results67, go_sem]) rfl ?_
        refine ⟨⟨6, a, 0, u⟩, rfl, fun e => absurd e hn, ExtR.of (by repeat (first | (with_reducible exact grownBy_refl _ _) | (with_reducible refine GB.setNew ?_ (by first | exact LeS.le | exact LeS.add _ | (simp; done) | (simp; omega)) _ _) | (with_reducible refine GB.alloc ?_ _) | (with_reducible refine GB.drew ?_) | (with_reducible refine GB.upR ?_ _) | (with_reducible refine GB.up ?_ _))), ?_⟩
        (refine Rd.mono (a := ?_) ?_ ?_; rotate_left; (repeat (first | (with_reducible exact H7.out) | (with_reducible refine Rd.alloc ?_ _) | (with_reducible refine Rd.set ?_ _ _ NeS.ne (by first | exact LeS.le | exact LeS.add _)))); omega)
      · go_wp2_with fail
        refine bodyPost_ret (v := .agg #[.int .i64 1, .int .i64 0, .int .i64 1, .int .i64 0]) (by simp [results, Try.results67, go_sem]) rfl ?_
        refine ⟨⟨1, 0, 1, 0⟩, rfl, fun e => absurd e hn, ExtR.of (by repeat (first | (with_reducible exact grownBy_refl _ _) | (with_reducible refine GB.setNew ?_ (by first | exact LeS.le | exact LeS.add _ | (simp; done) | (simp; omega)) _ _) | (with_reducible refine GB.alloc ?_ _) | (with_reducible refine GB.drew ?_) | (with_reducible refine GB.upR ?_ _) | (with_reducible refine GB.up ?_ _))), ?_⟩
        (refine Rd.mono (a := ?_) ?_ ?_; rotate_left; (repeat (first | (with_reducible exact H6.out) | (with_reducible refine Rd.alloc ?_ _) | (with_reducible refine Rd.set ?_ _ _ NeS.ne (by first | exact LeS.le | exact LeS.add _)))); omega)
end Go.Proofs.Ytnknamddonjnjaa
