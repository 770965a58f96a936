/- Walks: trees that are valid, the reference's side. -/
import Derived.Test.YteiemjebdhmnaaaGSoTop16
set_option linter.unusedSimpArgs false
set_option linter.unusedVariables false
namespace Go.Proofs.Yteiemjebdhmnaaa
open Go Go.RowKit Go.Proofs

set_option maxRecDepth 100000 in
set_option maxHeartbeats 1000000 in
theorem sTreeValid_any (t : Tree) (v0 v1 v2 : Value) (w : World) (h : ST w v0 v1 v2 t) :
    Calls Try.prog 11 #[.agg #[v0, v1, v2]] w fun e w' => e = .returned (.bool t.ok) ∧ Up w w' := by
  have HT := Lib.hid h
  obtain ⟨h0, h1, h2⟩ := h
  obtain ⟨p0, c0, rfl, _, _⟩ := h0.openc
  obtain ⟨p2, c2, rfl, hlp, hcp⟩ := h2.open
  obtain ⟨a, cap, rfl, hlen, hcap, hc⟩ := h1.open
  have H0 := Lib.hid h0
  clear h0 h1 h2 hcap
  have ks := fun w v h => sStoreValid_any t.base v w h
  rcases q1 : entsOk 1 t.base with _ | _
  · rw [q1] at ks
    have hh := Tree.ok_h (show t.head = false by simp [Tree.head, q1])
    rw [hh]
    go_enter Try.func11, Try.ntmps11
    go_wp2_with (go_at_call 35; refine (ks _ _ (H0.out.up (by repeat (first | exact Ext.refl _ | refine Ext.up ?_ _ | refine Ext.alloc ?_ _ | refine Ext.drew ?_ | refine Ext.setRow ?_ (by first | (dsimp only; omega) | exact LeS.le | exact LeS.add _ | (simp; done) | (simp; omega)) _ | refine Ext.setCell ?_ (by first | (dsimp only; omega) | exact LeS.le | exact LeS.add _ | (simp; done) | (simp; omega)) _)))).mono ?_; rintro e w' ⟨rfl, z, rfl⟩)
    go_ret
    exact ⟨rfl, (.of (by repeat (first | exact Ext.refl _ | refine Ext.up ?_ _ | refine Ext.alloc ?_ _ | refine Ext.drew ?_ | refine Ext.setRow ?_ (by first | (dsimp only; omega) | exact LeS.le | exact LeS.add _ | (simp; done) | (simp; omega)) _ | refine Ext.setCell ?_ (by first | (dsimp only; omega) | exact LeS.le | exact LeS.add _ | (simp; done) | (simp; omega)) _)))⟩
  rw [q1] at ks
  have ki := fun w => l1In_any (t.bs.length : Int) 1 14 w
  rcases q2 : inR t.bs.length 1 14 with _ | _
  · rw [q2] at ki
    have hh := Tree.ok_h (show t.head = false by simp [Tree.head, q2])
    rw [hh]
    go_enter Try.func11, Try.ntmps11
    go_wp2_with (first | (go_at_call 35; refine (ks _ _ (H0.out.up (by repeat (first | exact Ext.refl _ | refine Ext.up ?_ _ | refine Ext.alloc ?_ _ | refine Ext.drew ?_ | refine Ext.setRow ?_ (by first | (dsimp only; omega) | exact LeS.le | exact LeS.add _ | (simp; done) | (simp; omega)) _ | refine Ext.setCell ?_ (by first | (dsimp only; omega) | exact LeS.le | exact LeS.add _ | (simp; done) | (simp; omega)) _)))).mono ?_; rintro e w' ⟨rfl, z, rfl⟩) | (go_at_call 36; refine (ki _).mono ?_; rintro e w' ⟨rfl, rfl⟩))
    go_ret
    exact ⟨rfl, (.of (by repeat (first | exact Ext.refl _ | refine Ext.up ?_ _ | refine Ext.alloc ?_ _ | refine Ext.drew ?_ | refine Ext.setRow ?_ (by first | (dsimp only; omega) | exact LeS.le | exact LeS.add _ | (simp; done) | (simp; omega)) _ | refine Ext.setCell ?_ (by first | (dsimp only; omega) | exact LeS.le | exact LeS.add _ | (simp; done) | (simp; omega)) _)))⟩
  rw [q2] at ki
  obtain ⟨n1, n14⟩ := inR_iff.1 q2
  rcases ne_cases (t.pr.length : Int) (t.bs.length : Int) with ⟨q3, q3'⟩ | ⟨q3, q3'⟩
  · have hh := Tree.ok_h (show t.head = false by
      have : ¬ t.pr.length = t.bs.length := by omega
      simp [Tree.head, this])
    rw [hh]
    have Q3 := Lib.hid q3; clear q3
    go_enter Try.func11, Try.ntmps11
    go_wp2_with (first | (go_at_call 35; refine (ks _ _ (H0.out.up (by repeat (first | exact Ext.refl _ | refine Ext.up ?_ _ | refine Ext.alloc ?_ _ | refine Ext.drew ?_ | refine Ext.setRow ?_ (by first | (dsimp only; omega) | exact LeS.le | exact LeS.add _ | (simp; done) | (simp; omega)) _ | refine Ext.setCell ?_ (by first | (dsimp only; omega) | exact LeS.le | exact LeS.add _ | (simp; done) | (simp; omega)) _)))).mono ?_; rintro e w' ⟨rfl, z, rfl⟩) | (go_at_call 36; refine (ki _).mono ?_; rintro e w' ⟨rfl, rfl⟩))
    go_ret
    exact ⟨rfl, (.of (by repeat (first | exact Ext.refl _ | refine Ext.up ?_ _ | refine Ext.alloc ?_ _ | refine Ext.drew ?_ | refine Ext.setRow ?_ (by first | (dsimp only; omega) | exact LeS.le | exact LeS.add _ | (simp; done) | (simp; omega)) _ | refine Ext.setCell ?_ (by first | (dsimp only; omega) | exact LeS.le | exact LeS.add _ | (simp; done) | (simp; omega)) _)))⟩
  obtain ⟨x0, hx0⟩ := getElem?_some_of_lt (show 0 < t.bs.length by omega)
  obtain ⟨m0, hm0⟩ := getElem?_some_of_lt (show 0 < t.pr.length by omega)
  obtain ⟨b, off, p, c, rfl, hb, d0, d1, d2, d3, d4, d5, hx⟩ := hc 0 x0 hx0
  obtain ⟨b2, off2, rfl, hb2, hc2⟩ := hcp 0 m0 hm0
  have e0 : w.cell? ⟨b2, off2, none⟩ = some (.int .i64 m0) := by have := hc2 0 _ rfl; simpa using this
  simp only [Nat.zero_mul, Nat.add_zero] at d0 d1 d2 d3 d4 d5
  have Hx := Lib.hid hx
  have l1 : (0 : Int) < (t.bs.length : Int) := by omega
  have l2 : (0 : Int) < (t.pr.length : Int) := by omega
  have HC := Lib.hid hc; have HP := Lib.hid hcp; have HX0 := Lib.hid hx0; have HM0 := Lib.hid hm0; have Q3 := Lib.hid q3; have Q2 := Lib.hid q2; have Q1 := Lib.hid q1
  clear hc hcp hc2 hx hx0 hm0 q3 q2 q1
  rcases ne_cases m0 (-1) with ⟨q5, q5'⟩ | ⟨q5, q5'⟩
  · have hh := Tree.ok_h (show t.head = false by
      have : ¬ t.pr.getD 0 0 = -1 := by rw [getD_of HM0.out]; exact q5
      simp only [Tree.head, decide_eq_false this, Bool.and_false])
    rw [hh]
    have Q5 := Lib.hid q5; clear q5
    go_enter Try.func11, Try.ntmps11
    go_wp2_with (first | (go_at_call 35; refine (ks _ _ (H0.out.up (by repeat (first | exact Ext.refl _ | refine Ext.up ?_ _ | refine Ext.alloc ?_ _ | refine Ext.drew ?_ | refine Ext.setRow ?_ (by first | (dsimp only; omega) | exact LeS.le | exact LeS.add _ | (simp; done) | (simp; omega)) _ | refine Ext.setCell ?_ (by first | (dsimp only; omega) | exact LeS.le | exact LeS.add _ | (simp; done) | (simp; omega)) _)))).mono ?_; rintro e w' ⟨rfl, z, rfl⟩) | (go_at_call 36; refine (ki _).mono ?_; rintro e w' ⟨rfl, rfl⟩))
    go_ret
    exact ⟨rfl, (.of (by repeat (first | exact Ext.refl _ | refine Ext.up ?_ _ | refine Ext.alloc ?_ _ | refine Ext.drew ?_ | refine Ext.setRow ?_ (by first | (dsimp only; omega) | exact LeS.le | exact LeS.add _ | (simp; done) | (simp; omega)) _ | refine Ext.setCell ?_ (by first | (dsimp only; omega) | exact LeS.le | exact LeS.add _ | (simp; done) | (simp; omega)) _)))⟩
  have Hhead := Lib.hid (show t.head = true by
    have h3 : t.pr.length = t.bs.length := by have := Q3.out; omega
    have h5 : t.pr.getD 0 0 = -1 := by rw [getD_of HM0.out]; exact q5
    simp only [Tree.head, Q1.out, Q2.out, h3, h5, decide_true, Bool.and_self])
  subst q5
  clear q5'
  go_enter Try.func11, Try.ntmps11
  go_wp2_with (first | (go_at_call 35; refine (ks _ _ (H0.out.up (by repeat (first | exact Ext.refl _ | refine Ext.up ?_ _ | refine Ext.alloc ?_ _ | refine Ext.drew ?_ | refine Ext.setRow ?_ (by first | (dsimp only; omega) | exact LeS.le | exact LeS.add _ | (simp; done) | (simp; omega)) _ | refine Ext.setCell ?_ (by first | (dsimp only; omega) | exact LeS.le | exact LeS.add _ | (simp; done) | (simp; omega)) _)))).mono ?_; rintro e w' ⟨rfl, z0, rfl⟩) | (go_at_call 36; refine (ki _).mono ?_; rintro e w' ⟨rfl, rfl⟩))
  go_loopw [3] (fun s3 wr => ∃ k : Nat, s3 = .int .i64 k ∧ k ≤ t.bs.length ∧ Up z0.val wr ∧ upTo (newAt t.bs) k = true) (fun s3 _ => t.bs.length - (intOf s3).toNat)
  case atStart => exact ⟨0, rfl, Nat.zero_le _, (.of (by repeat (first | exact Ext.refl _ | refine Ext.up ?_ _ | refine Ext.alloc ?_ _ | refine Ext.drew ?_ | refine Ext.setRow ?_ (by first | (dsimp only; omega) | exact LeS.le | exact LeS.add _ | (simp; done) | (simp; omega)) _ | refine Ext.setCell ?_ (by first | (dsimp only; omega) | exact LeS.le | exact LeS.add _ | (simp; done) | (simp; omega)) _))), rfl⟩
  case round =>
    obtain ⟨k, rfl, hk, ⟨z, rfl⟩, hall⟩ := hrel
    by_cases hlt : k < t.bs.length
    · obtain ⟨x, hxk⟩ := getElem?_some_of_lt hlt
      obtain ⟨b', off', px, cx, e', hb', f0, f1, f2, f3, f4, f5, hxs⟩ := HC.out k x hxk
      simp only [Option.some.injEq, Addr.mk.injEq, and_true] at e'
      obtain ⟨rfl, rfl⟩ := e'
      have k0 : (0 : Int) ≤ (k : Int) := by omega
      have Hxs := Lib.hid hxs; have Hall := Lib.hid hall
      have hn := newAt_find hxk
      have kv := fun w v h => sBlockValid_any x.1 x.2 v w h
      have Hxk := Lib.hid hxk
      clear hxk hxs hall
      rcases ho : x.1.okL x.2 with _ | _
      · rw [ho] at kv hn
        have hh := Lib.hid (Tree.ok_n hlt (by rw [hn]; rfl))
        clear hn
        go_wp2_with fail
        (refine wp_region_up (by kernel_rfl) (by kernel_rfl) ?_; (repeat (go_big_quiet_step ((go_at_call 37; exact Calls.up (kv _ _ (Hxs.out.up (by repeat (first | exact Ext.refl _ | refine Ext.up ?_ _ | refine Ext.alloc ?_ _ | refine Ext.drew ?_ | refine Ext.setRow ?_ (by first | (dsimp only; omega) | exact LeS.le | exact LeS.add _ | (simp; done) | (simp; omega)) _ | refine Ext.setCell ?_ (by first | (dsimp only; omega) | exact LeS.le | exact LeS.add _ | (simp; done) | (simp; omega)) _)))))))); refine wpQuiet_nil ?_; intro _ hw'; obtain ⟨zq, hw''⟩ := hw'; subst hw'')
        go_wp2_with fail
        go_ret
        exact ⟨by rw [hh.out]; rfl, (.of (by repeat (first | exact Ext.refl _ | refine Ext.up ?_ _ | refine Ext.alloc ?_ _ | refine Ext.drew ?_ | refine Ext.setRow ?_ (by first | (dsimp only; omega) | exact LeS.le | exact LeS.add _ | (simp; done) | (simp; omega)) _ | refine Ext.setCell ?_ (by first | (dsimp only; omega) | exact LeS.le | exact LeS.add _ | (simp; done) | (simp; omega)) _)))⟩
      rw [ho] at kv hn
      rcases ne_cases (findB t.bs (bsumOf x)) (k : Int) with ⟨w1, w1'⟩ | ⟨w1, w1'⟩
      · rw [decide_eq_false w1] at hn
        have hh := Lib.hid (Tree.ok_n hlt (by rw [hn]; rfl))
        have W1 := Lib.hid w1; clear w1 hn
        go_wp2_with fail
        (refine wp_region_up (by kernel_rfl) (by kernel_rfl) ?_; (repeat (go_big_quiet_step (first | (go_at_call 37; exact Calls.up (kv _ _ (Hxs.out.up (by repeat (first | exact Ext.refl _ | refine Ext.up ?_ _ | refine Ext.alloc ?_ _ | refine Ext.drew ?_ | refine Ext.setRow ?_ (by first | (dsimp only; omega) | exact LeS.le | exact LeS.add _ | (simp; done) | (simp; omega)) _ | refine Ext.setCell ?_ (by first | (dsimp only; omega) | exact LeS.le | exact LeS.add _ | (simp; done) | (simp; omega)) _))))) | (go_at_call 39; exact Calls.up (sBS_any x _ _ (Hxs.out.up (by repeat (first | exact Ext.refl _ | refine Ext.up ?_ _ | refine Ext.alloc ?_ _ | refine Ext.drew ?_ | refine Ext.setRow ?_ (by first | (dsimp only; omega) | exact LeS.le | exact LeS.add _ | (simp; done) | (simp; omega)) _ | refine Ext.setCell ?_ (by first | (dsimp only; omega) | exact LeS.le | exact LeS.add _ | (simp; done) | (simp; omega)) _))))) | (go_at_call 38; exact Calls.up (l13Find_any t _ _ _ (bsumOf x) _ (HT.out.up (by repeat (first | exact Ext.refl _ | refine Ext.up ?_ _ | refine Ext.alloc ?_ _ | refine Ext.drew ?_ | refine Ext.setRow ?_ (by first | (dsimp only; omega) | exact LeS.le | exact LeS.add _ | (simp; done) | (simp; omega)) _ | refine Ext.setCell ?_ (by first | (dsimp only; omega) | exact LeS.le | exact LeS.add _ | (simp; done) | (simp; omega)) _)))))))); refine wpQuiet_nil ?_; intro _ hw'; obtain ⟨zq, hw''⟩ := hw'; subst hw'')
        go_wp2_with fail
        go_ret
        exact ⟨by rw [hh.out]; rfl, (.of (by repeat (first | exact Ext.refl _ | refine Ext.up ?_ _ | refine Ext.alloc ?_ _ | refine Ext.drew ?_ | refine Ext.setRow ?_ (by first | (dsimp only; omega) | exact LeS.le | exact LeS.add _ | (simp; done) | (simp; omega)) _ | refine Ext.setCell ?_ (by first | (dsimp only; omega) | exact LeS.le | exact LeS.add _ | (simp; done) | (simp; omega)) _)))⟩
      · rw [decide_eq_true w1] at hn
        have Hn := Lib.hid hn
        have W1 := Lib.hid w1; clear w1 hn
        go_wp2_with fail
        (refine wp_region_up (by kernel_rfl) (by kernel_rfl) ?_; (repeat (go_big_quiet_step (first | (go_at_call 37; exact Calls.up (kv _ _ (Hxs.out.up (by repeat (first | exact Ext.refl _ | refine Ext.up ?_ _ | refine Ext.alloc ?_ _ | refine Ext.drew ?_ | refine Ext.setRow ?_ (by first | (dsimp only; omega) | exact LeS.le | exact LeS.add _ | (simp; done) | (simp; omega)) _ | refine Ext.setCell ?_ (by first | (dsimp only; omega) | exact LeS.le | exact LeS.add _ | (simp; done) | (simp; omega)) _))))) | (go_at_call 39; exact Calls.up (sBS_any x _ _ (Hxs.out.up (by repeat (first | exact Ext.refl _ | refine Ext.up ?_ _ | refine Ext.alloc ?_ _ | refine Ext.drew ?_ | refine Ext.setRow ?_ (by first | (dsimp only; omega) | exact LeS.le | exact LeS.add _ | (simp; done) | (simp; omega)) _ | refine Ext.setCell ?_ (by first | (dsimp only; omega) | exact LeS.le | exact LeS.add _ | (simp; done) | (simp; omega)) _))))) | (go_at_call 38; exact Calls.up (l13Find_any t _ _ _ (bsumOf x) _ (HT.out.up (by repeat (first | exact Ext.refl _ | refine Ext.up ?_ _ | refine Ext.alloc ?_ _ | refine Ext.drew ?_ | refine Ext.setRow ?_ (by first | (dsimp only; omega) | exact LeS.le | exact LeS.add _ | (simp; done) | (simp; omega)) _ | refine Ext.setCell ?_ (by first | (dsimp only; omega) | exact LeS.le | exact LeS.add _ | (simp; done) | (simp; omega)) _)))))))); refine wpQuiet_nil ?_; intro _ hw'; obtain ⟨zq, hw''⟩ := hw'; subst hw'')
        go_wp2_with fail
        go_roundw
        case rel => exact ⟨k + 1, by go_num, by omega, (.of (by repeat (first | exact Ext.refl _ | refine Ext.up ?_ _ | refine Ext.alloc ?_ _ | refine Ext.drew ?_ | refine Ext.setRow ?_ (by first | (dsimp only; omega) | exact LeS.le | exact LeS.add _ | (simp; done) | (simp; omega)) _ | refine Ext.setCell ?_ (by first | (dsimp only; omega) | exact LeS.le | exact LeS.add _ | (simp; done) | (simp; omega)) _))), upTo_succ Hall.out (by rw [Hn.out]; rfl)⟩
        case measure => simp [intOf]; omega
    · obtain rfl : k = t.bs.length := by omega
      have Hnew := Lib.hid hall
      clear hall hk hlt
      go_wp2_with fail
      go_loopw [4, 5] (fun s4 _ wr => ∃ k : Nat, s4 = .int .i64 k ∧ 1 ≤ k ∧ k ≤ t.bs.length ∧ Up z.val wr ∧ upTo (linkAt t.bs t.pr) k = true) (fun s4 _ _ => t.bs.length - (intOf s4).toNat)
      case atStart => exact ⟨1, rfl, Nat.le_refl _, by omega, (.of (by repeat (first | exact Ext.refl _ | refine Ext.up ?_ _ | refine Ext.alloc ?_ _ | refine Ext.drew ?_ | refine Ext.setRow ?_ (by first | (dsimp only; omega) | exact LeS.le | exact LeS.add _ | (simp; done) | (simp; omega)) _ | refine Ext.setCell ?_ (by first | (dsimp only; omega) | exact LeS.le | exact LeS.add _ | (simp; done) | (simp; omega)) _))), upTo_succ rfl (linkAt_zero _ _)⟩
      case round =>
        obtain ⟨k, rfl, hk1, hk, ⟨z2, rfl⟩, hall⟩ := hrel
        by_cases hlt : k < t.bs.length
        · obtain ⟨x, hxk⟩ := getElem?_some_of_lt hlt
          obtain ⟨b', off', px, cx, e', hb', f0, f1, f2, f3, f4, f5, hxs⟩ := HC.out k x hxk
          simp only [Option.some.injEq, Addr.mk.injEq, and_true] at e'
          obtain ⟨rfl, rfl⟩ := e'
          obtain ⟨n, hn⟩ := getElem?_some_of_lt (show k < t.pr.length by have := Q3.out; omega)
          obtain ⟨b3, off3, e3, _, hc3⟩ := HP.out k n hn
          simp only [Option.some.injEq, Addr.mk.injEq, and_true] at e3
          obtain ⟨rfl, rfl⟩ := e3
          have g0 : w.cell? ⟨b2, off2 + k, none⟩ = some (.int .i64 n) := by have := hc3 0 _ rfl; simpa using this
          have k0 : (0 : Int) ≤ (k : Int) := by omega
          have k1 : (k : Int) < (t.pr.length : Int) := by have := Q3.out; omega
          have hxo := Blk.okL_in (newAt_ok hxk (upTo_iff.1 Hnew.out k hlt))
          obtain ⟨_, _, _, ⟨a0, a1⟩, _⟩ := hxo
          have Hxk := Lib.hid hxk; have Hn := Lib.hid hn; have Hall := Lib.hid hall
          clear hxk hn hc3 hall hxs
          have ki2 := fun w => l1In_any n 0 ((k : Int) - 1) w
          rcases qi : inR n 0 ((k : Int) - 1) with _ | _
          · rw [qi] at ki2
            have hh := Lib.hid (Tree.ok_l hlt (linkAt_out Hxk.out Hn.out hk1 qi))
            go_wp2_with fail
            (refine wp_region_up (by kernel_rfl) (by kernel_rfl) ?_; (repeat (go_big_quiet_step ((go_at_call 36; exact Calls.up_same (ki2 _))))); refine wpQuiet_nil ?_; intro _ hw'; obtain ⟨zq, hw''⟩ := hw'; subst hw'')
            go_wp2_with fail
            go_ret
            exact ⟨by rw [hh.out]; rfl, (.of (by repeat (first | exact Ext.refl _ | refine Ext.up ?_ _ | refine Ext.alloc ?_ _ | refine Ext.drew ?_ | refine Ext.setRow ?_ (by first | (dsimp only; omega) | exact LeS.le | exact LeS.add _ | (simp; done) | (simp; omega)) _ | refine Ext.setCell ?_ (by first | (dsimp only; omega) | exact LeS.le | exact LeS.add _ | (simp; done) | (simp; omega)) _)))⟩
          rw [qi] at ki2
          obtain ⟨i0, i1⟩ := inR_iff.1 qi
          obtain ⟨y, hy⟩ := getElem?_some_of_lt (show n.toNat < t.bs.length by omega)
          have hlk := linkAt_eq Hxk.out Hn.out hy hk1
          obtain ⟨b4, off4, py, cy, e4, _, r0, r1, r2, r3, r4, r5, hys⟩ := HC.out n.toNat y hy
          simp only [Option.some.injEq, Addr.mk.injEq, and_true] at e4
          obtain ⟨rfl, rfl⟩ := e4
          have nl1 : n < (t.bs.length : Int) := by omega
          have Hys := Lib.hid hys
          have Hlk := Lib.hid hlk; have Hy := Lib.hid hy; have Qi := Lib.hid qi
          clear hlk hy qi hys i1
          rcases ne_cases (bsumOf y) x.1.bf with ⟨w1, w1'⟩ | ⟨w1, w1'⟩
          · have hh := Lib.hid (Tree.ok_l hlt (by rw [Hlk.out, decide_eq_false w1]; simp))
            have W1 := Lib.hid w1; clear w1
            go_wp2_with fail
            (refine wp_region_up (by kernel_rfl) (by kernel_rfl) ?_; (repeat (go_big_quiet_step (first | (go_at_call 36; exact Calls.up_same (ki2 _)) | (go_at_call 39; exact Calls.up (sBS_any y _ _ (Hys.out.up (by repeat (first | exact Ext.refl _ | refine Ext.up ?_ _ | refine Ext.alloc ?_ _ | refine Ext.drew ?_ | refine Ext.setRow ?_ (by first | (dsimp only; omega) | exact LeS.le | exact LeS.add _ | (simp; done) | (simp; omega)) _ | refine Ext.setCell ?_ (by first | (dsimp only; omega) | exact LeS.le | exact LeS.add _ | (simp; done) | (simp; omega)) _)))))))); refine wpQuiet_nil ?_; intro _ hw'; obtain ⟨zq, hw''⟩ := hw'; subst hw'')
            go_wp2_with fail
            go_ret
            exact ⟨by rw [hh.out]; rfl, (.of (by repeat (first | exact Ext.refl _ | refine Ext.up ?_ _ | refine Ext.alloc ?_ _ | refine Ext.drew ?_ | refine Ext.setRow ?_ (by first | (dsimp only; omega) | exact LeS.le | exact LeS.add _ | (simp; done) | (simp; omega)) _ | refine Ext.setCell ?_ (by first | (dsimp only; omega) | exact LeS.le | exact LeS.add _ | (simp; done) | (simp; omega)) _)))⟩
          have W1 := Lib.hid w1; clear w1
          rcases ne_cases y.1.ht (x.1.ht - 1) with ⟨w2, w2'⟩ | ⟨w2, w2'⟩
          · have hh := Lib.hid (Tree.ok_l hlt (by rw [Hlk.out, decide_eq_false (show ¬ y.1.ht + 1 = x.1.ht by omega)]; simp))
            have W2 := Lib.hid w2; clear w2
            go_wp2_with fail
            (refine wp_region_up (by kernel_rfl) (by kernel_rfl) ?_; (repeat (go_big_quiet_step (first | (go_at_call 36; exact Calls.up_same (ki2 _)) | (go_at_call 39; exact Calls.up (sBS_any y _ _ (Hys.out.up (by repeat (first | exact Ext.refl _ | refine Ext.up ?_ _ | refine Ext.alloc ?_ _ | refine Ext.drew ?_ | refine Ext.setRow ?_ (by first | (dsimp only; omega) | exact LeS.le | exact LeS.add _ | (simp; done) | (simp; omega)) _ | refine Ext.setCell ?_ (by first | (dsimp only; omega) | exact LeS.le | exact LeS.add _ | (simp; done) | (simp; omega)) _)))))))); refine wpQuiet_nil ?_; intro _ hw'; obtain ⟨zq, hw''⟩ := hw'; subst hw'')
            go_wp2_with fail
            go_ret
            exact ⟨by rw [hh.out]; rfl, (.of (by repeat (first | exact Ext.refl _ | refine Ext.up ?_ _ | refine Ext.alloc ?_ _ | refine Ext.drew ?_ | refine Ext.setRow ?_ (by first | (dsimp only; omega) | exact LeS.le | exact LeS.add _ | (simp; done) | (simp; omega)) _ | refine Ext.setCell ?_ (by first | (dsimp only; omega) | exact LeS.le | exact LeS.add _ | (simp; done) | (simp; omega)) _)))⟩
          have W2 := Lib.hid w2; clear w2
          by_cases w3 : x.1.vw ≤ y.1.vw
          · have hh := Lib.hid (Tree.ok_l hlt (by rw [Hlk.out, decide_eq_false (show ¬ y.1.vw < x.1.vw by omega)]; simp))
            go_wp2_with fail
            (refine wp_region_up (by kernel_rfl) (by kernel_rfl) ?_; (repeat (go_big_quiet_step (first | (go_at_call 36; exact Calls.up_same (ki2 _)) | (go_at_call 39; exact Calls.up (sBS_any y _ _ (Hys.out.up (by repeat (first | exact Ext.refl _ | refine Ext.up ?_ _ | refine Ext.alloc ?_ _ | refine Ext.drew ?_ | refine Ext.setRow ?_ (by first | (dsimp only; omega) | exact LeS.le | exact LeS.add _ | (simp; done) | (simp; omega)) _ | refine Ext.setCell ?_ (by first | (dsimp only; omega) | exact LeS.le | exact LeS.add _ | (simp; done) | (simp; omega)) _)))))))); refine wpQuiet_nil ?_; intro _ hw'; obtain ⟨zq, hw''⟩ := hw'; subst hw'')
            go_wp2_with fail
            go_ret
            exact ⟨by rw [hh.out]; rfl, (.of (by repeat (first | exact Ext.refl _ | refine Ext.up ?_ _ | refine Ext.alloc ?_ _ | refine Ext.drew ?_ | refine Ext.setRow ?_ (by first | (dsimp only; omega) | exact LeS.le | exact LeS.add _ | (simp; done) | (simp; omega)) _ | refine Ext.setCell ?_ (by first | (dsimp only; omega) | exact LeS.le | exact LeS.add _ | (simp; done) | (simp; omega)) _)))⟩
          have hh := Lib.hid (show linkAt t.bs t.pr k = true by rw [Hlk.out, Qi.out, decide_eq_true W1.out, decide_eq_true (show y.1.ht + 1 = x.1.ht by have := W2.out; omega), decide_eq_true (show y.1.vw < x.1.vw by omega)]; rfl)
          go_wp2_with fail
          (refine wp_region_up (by kernel_rfl) (by kernel_rfl) ?_; (repeat (go_big_quiet_step (first | (go_at_call 36; exact Calls.up_same (ki2 _)) | (go_at_call 39; exact Calls.up (sBS_any y _ _ (Hys.out.up (by repeat (first | exact Ext.refl _ | refine Ext.up ?_ _ | refine Ext.alloc ?_ _ | refine Ext.drew ?_ | refine Ext.setRow ?_ (by first | (dsimp only; omega) | exact LeS.le | exact LeS.add _ | (simp; done) | (simp; omega)) _ | refine Ext.setCell ?_ (by first | (dsimp only; omega) | exact LeS.le | exact LeS.add _ | (simp; done) | (simp; omega)) _)))))))); refine wpQuiet_nil ?_; intro _ hw'; obtain ⟨zq, hw''⟩ := hw'; subst hw'')
          go_wp2_with fail
          go_roundw
          case rel => exact ⟨k + 1, by go_num, by omega, by omega, (.of (by repeat (first | exact Ext.refl _ | refine Ext.up ?_ _ | refine Ext.alloc ?_ _ | refine Ext.drew ?_ | refine Ext.setRow ?_ (by first | (dsimp only; omega) | exact LeS.le | exact LeS.add _ | (simp; done) | (simp; omega)) _ | refine Ext.setCell ?_ (by first | (dsimp only; omega) | exact LeS.le | exact LeS.add _ | (simp; done) | (simp; omega)) _))), upTo_succ Hall.out hh.out⟩
          case measure => simp [intOf]; omega
        · obtain rfl : k = t.bs.length := by omega
          have Hl := Lib.hid hall
          clear hall
          have Hok := Lib.hid (show t.ok = sameF x0 (firstB t.base) by
            unfold Tree.ok
            rw [Hhead.out, Hnew.out, Hl.out]
            simp [Tree.first, HX0.out])
          go_wp2_with fail
          (refine wp_region_up (by kernel_rfl) (by kernel_rfl) ?_; (repeat (go_big_quiet_step (first | (go_at_call 41; exact Calls.up (sFirstBlock_any t.base _ _ (H0.out.up (by repeat (first | exact Ext.refl _ | refine Ext.up ?_ _ | refine Ext.alloc ?_ _ | refine Ext.drew ?_ | refine Ext.setRow ?_ (by first | (dsimp only; omega) | exact LeS.le | exact LeS.add _ | (simp; done) | (simp; omega)) _ | refine Ext.setCell ?_ (by first | (dsimp only; omega) | exact LeS.le | exact LeS.add _ | (simp; done) | (simp; omega)) _))))) | (go_at_call 40; exact Calls.up (sSame_any x0 (firstB t.base) _ _ (Hx.out.up (by repeat (first | exact Ext.refl _ | refine Ext.up ?_ _ | refine Ext.alloc ?_ _ | refine Ext.drew ?_ | refine Ext.setRow ?_ (by first | (dsimp only; omega) | exact LeS.le | exact LeS.add _ | (simp; done) | (simp; omega)) _ | refine Ext.setCell ?_ (by first | (dsimp only; omega) | exact LeS.le | exact LeS.add _ | (simp; done) | (simp; omega)) _)))))))); refine wpQuiet_nil ?_; intro _ hw'; obtain ⟨zq, hw''⟩ := hw'; subst hw'')
          go_wp2_with fail
          go_ret
          exact ⟨by rw [Hok.out]; rfl, (.of (by repeat (first | exact Ext.refl _ | refine Ext.up ?_ _ | refine Ext.alloc ?_ _ | refine Ext.drew ?_ | refine Ext.setRow ?_ (by first | (dsimp only; omega) | exact LeS.le | exact LeS.add _ | (simp; done) | (simp; omega)) _ | refine Ext.setCell ?_ (by first | (dsimp only; omega) | exact LeS.le | exact LeS.add _ | (simp; done) | (simp; omega)) _)))⟩
end Go.Proofs.Yteiemjebdhmnaaa
