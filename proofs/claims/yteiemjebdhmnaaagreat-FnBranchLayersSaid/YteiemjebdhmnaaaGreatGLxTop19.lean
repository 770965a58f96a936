/- Walks: trees that are valid, the reference's side. Walks: blocks that are found, ways to blocks. -/
import Derived.Test.YteiemjebdhmnaaaGreatGLxTop18
import Derived.Test.YteiemjebdhmnaaaGreatGLxTop05
import Derived.Deep.RegionHeld3
set_option linter.unusedSimpArgs false
set_option linter.unusedVariables false
namespace Go.Proofs.YteiemjebdhmnaaaGreat
open Go Go.RowKit Go.Proofs

set_option maxRecDepth 100000 in
set_option maxHeartbeats 1000000 in
theorem sTreeValid_any (t : Tree) (v0 v1 v2 : Value) (w : World) (h : ST w v0 v1 v2 t) :
    Calls Tryz.prog 9 #[.agg #[v0, v1, v2]] w fun e w' => e = .returned (.bool t.ok) ∧ Up w w' := by
  have HT := Lib.hid h
  obtain ⟨h0, h1, h2⟩ := h
  obtain ⟨p0, c0, rfl, _, _⟩ := h0.openc
  obtain ⟨p2, c2, rfl, hlp, hcp⟩ := h2.open
  obtain ⟨a, cap, rfl, hlen, hcap, hc⟩ := h1.open
  have H0 := Lib.hid h0
  clear h0 h1 h2 hcap
  have ks := fun w v h => sStoreValid_any t.base v w h
  rcases q1 : entsOk 1 t.base with _ | _
  · rw [q1] at ks
    have hh := Tree.ok_h (show t.head = false by simp [Tree.head, q1])
    rw [hh]
    go_enter Tryz.func9, Tryz.ntmps9
    go_wp2_with (go_at_call 30; refine (ks _ _ (H0.out.up (by repeat (first | exact Ext.refl _ | refine Ext.up ?_ _ | refine Ext.alloc ?_ _ | refine Ext.drew ?_ | refine Ext.setRow ?_ (by first | (dsimp only; omega) | exact LeS.le | exact LeS.add _ | (simp; done) | (simp; omega)) _ | refine Ext.setCell ?_ (by first | (dsimp only; omega) | exact LeS.le | exact LeS.add _ | (simp; done) | (simp; omega)) _)))).mono ?_; rintro e w' ⟨rfl, z, rfl⟩)
    go_ret
    exact ⟨rfl, (.of (by repeat (first | exact Ext.refl _ | refine Ext.up ?_ _ | refine Ext.alloc ?_ _ | refine Ext.drew ?_ | refine Ext.setRow ?_ (by first | (dsimp only; omega) | exact LeS.le | exact LeS.add _ | (simp; done) | (simp; omega)) _ | refine Ext.setCell ?_ (by first | (dsimp only; omega) | exact LeS.le | exact LeS.add _ | (simp; done) | (simp; omega)) _)))⟩
  rw [q1] at ks
  have ki := fun w => l1In_any (t.bs.length : Int) 1 14 w
  rcases q2 : inR t.bs.length 1 14 with _ | _
  · rw [q2] at ki
    have hh := Tree.ok_h (show t.head = false by simp [Tree.head, q2])
    rw [hh]
    go_enter Tryz.func9, Tryz.ntmps9
    go_wp2_with (first | (go_at_call 30; refine (ks _ _ (H0.out.up (by repeat (first | exact Ext.refl _ | refine Ext.up ?_ _ | refine Ext.alloc ?_ _ | refine Ext.drew ?_ | refine Ext.setRow ?_ (by first | (dsimp only; omega) | exact LeS.le | exact LeS.add _ | (simp; done) | (simp; omega)) _ | refine Ext.setCell ?_ (by first | (dsimp only; omega) | exact LeS.le | exact LeS.add _ | (simp; done) | (simp; omega)) _)))).mono ?_; rintro e w' ⟨rfl, z, rfl⟩) | (go_at_call 31; refine (ki _).mono ?_; rintro e w' ⟨rfl, rfl⟩))
    go_ret
    exact ⟨rfl, (.of (by repeat (first | exact Ext.refl _ | refine Ext.up ?_ _ | refine Ext.alloc ?_ _ | refine Ext.drew ?_ | refine Ext.setRow ?_ (by first | (dsimp only; omega) | exact LeS.le | exact LeS.add _ | (simp; done) | (simp; omega)) _ | refine Ext.setCell ?_ (by first | (dsimp only; omega) | exact LeS.le | exact LeS.add _ | (simp; done) | (simp; omega)) _)))⟩
  rw [q2] at ki
  obtain ⟨n1, n14⟩ := inR_iff.1 q2
  rcases ne_cases (t.pr.length : Int) (t.bs.length : Int) with ⟨q3, q3'⟩ | ⟨q3, q3'⟩
  · have hh := Tree.ok_h (show t.head = false by
      have : ¬ t.pr.length = t.bs.length := by omega
      simp [Tree.head, this])
    rw [hh]
    have Q3 := Lib.hid q3; clear q3
    go_enter Tryz.func9, Tryz.ntmps9
    go_wp2_with (first | (go_at_call 30; refine (ks _ _ (H0.out.up (by repeat (first | exact Ext.refl _ | refine Ext.up ?_ _ | refine Ext.alloc ?_ _ | refine Ext.drew ?_ | refine Ext.setRow ?_ (by first | (dsimp only; omega) | exact LeS.le | exact LeS.add _ | (simp; done) | (simp; omega)) _ | refine Ext.setCell ?_ (by first | (dsimp only; omega) | exact LeS.le | exact LeS.add _ | (simp; done) | (simp; omega)) _)))).mono ?_; rintro e w' ⟨rfl, z, rfl⟩) | (go_at_call 31; refine (ki _).mono ?_; rintro e w' ⟨rfl, rfl⟩))
    go_ret
    exact ⟨rfl, (.of (by repeat (first | exact Ext.refl _ | refine Ext.up ?_ _ | refine Ext.alloc ?_ _ | refine Ext.drew ?_ | refine Ext.setRow ?_ (by first | (dsimp only; omega) | exact LeS.le | exact LeS.add _ | (simp; done) | (simp; omega)) _ | refine Ext.setCell ?_ (by first | (dsimp only; omega) | exact LeS.le | exact LeS.add _ | (simp; done) | (simp; omega)) _)))⟩
  obtain ⟨x0, hx0⟩ := getElem?_some_of_lt (show 0 < t.bs.length by omega)
  obtain ⟨m0, hm0⟩ := getElem?_some_of_lt (show 0 < t.pr.length by omega)
  obtain ⟨b, off, p, c, rfl, hb, d0, d1, d2, d3, d4, d5, hx⟩ := hc 0 x0 hx0
  obtain ⟨b2, off2, rfl, hb2, hc2⟩ := hcp 0 m0 hm0
  have e0 : w.cell? ⟨b2, off2, none⟩ = some (.int .i64 m0) := by have := hc2 0 _ rfl; simpa using this
  simp only [Nat.zero_mul, Nat.add_zero] at d0 d1 d2 d3 d4 d5
  have Hx := Lib.hid hx
  have l1 : (0 : Int) < (t.bs.length : Int) := by omega
  have l2 : (0 : Int) < (t.pr.length : Int) := by omega
  have HC := Lib.hid hc; have HP := Lib.hid hcp; have HX0 := Lib.hid hx0; have HM0 := Lib.hid hm0; have Q3 := Lib.hid q3; have Q2 := Lib.hid q2; have Q1 := Lib.hid q1
  clear hc hcp hc2 hx hx0 hm0 q3 q2 q1
  rcases ne_cases m0 (-1) with ⟨q5, q5'⟩ | ⟨q5, q5'⟩
  · have hh := Tree.ok_h (show t.head = false by
      have : ¬ t.pr.getD 0 0 = -1 := by rw [getD_of HM0.out]; exact q5
      simp only [Tree.head, decide_eq_false this, Bool.and_false])
    rw [hh]
    have Q5 := Lib.hid q5; clear q5
    go_enter Tryz.func9, Tryz.ntmps9
    go_wp2_with (first | (go_at_call 30; refine (ks _ _ (H0.out.up (by repeat (first | exact Ext.refl _ | refine Ext.up ?_ _ | refine Ext.alloc ?_ _ | refine Ext.drew ?_ | refine Ext.setRow ?_ (by first | (dsimp only; omega) | exact LeS.le | exact LeS.add _ | (simp; done) | (simp; omega)) _ | refine Ext.setCell ?_ (by first | (dsimp only; omega) | exact LeS.le | exact LeS.add _ | (simp; done) | (simp; omega)) _)))).mono ?_; rintro e w' ⟨rfl, z, rfl⟩) | (go_at_call 31; refine (ki _).mono ?_; rintro e w' ⟨rfl, rfl⟩))
    go_ret
    exact ⟨rfl, (.of (by repeat (first | exact Ext.refl _ | refine Ext.up ?_ _ | refine Ext.alloc ?_ _ | refine Ext.drew ?_ | refine Ext.setRow ?_ (by first | (dsimp only; omega) | exact LeS.le | exact LeS.add _ | (simp; done) | (simp; omega)) _ | refine Ext.setCell ?_ (by first | (dsimp only; omega) | exact LeS.le | exact LeS.add _ | (simp; done) | (simp; omega)) _)))⟩
  have Hhead := Lib.hid (show t.head = true by
    have h3 : t.pr.length = t.bs.length := by have := Q3.out; omega
    have h5 : t.pr.getD 0 0 = -1 := by rw [getD_of HM0.out]; exact q5
    simp only [Tree.head, Q1.out, Q2.out, h3, h5, decide_true, Bool.and_self])
  subst q5
  clear q5'
  go_enter Tryz.func9, Tryz.ntmps9
  go_wp2_with (first | (go_at_call 30; refine (ks _ _ (H0.out.up (by repeat (first | exact Ext.refl _ | refine Ext.up ?_ _ | refine Ext.alloc ?_ _ | refine Ext.drew ?_ | refine Ext.setRow ?_ (by first | (dsimp only; omega) | exact LeS.le | exact LeS.add _ | (simp; done) | (simp; omega)) _ | refine Ext.setCell ?_ (by first | (dsimp only; omega) | exact LeS.le | exact LeS.add _ | (simp; done) | (simp; omega)) _)))).mono ?_; rintro e w' ⟨rfl, z0, rfl⟩) | (go_at_call 31; refine (ki _).mono ?_; rintro e w' ⟨rfl, rfl⟩))
  go_loopw [3] (fun s3 wr => ∃ k : Nat, s3 = .int .i64 k ∧ k ≤ t.bs.length ∧ Up z0.val wr ∧ upTo (newAt t.bs) k = true) (fun s3 _ => t.bs.length - (intOf s3).toNat)
  case atStart => exact ⟨0, rfl, Nat.zero_le _, (.of (by repeat (first | exact Ext.refl _ | refine Ext.up ?_ _ | refine Ext.alloc ?_ _ | refine Ext.drew ?_ | refine Ext.setRow ?_ (by first | (dsimp only; omega) | exact LeS.le | exact LeS.add _ | (simp; done) | (simp; omega)) _ | refine Ext.setCell ?_ (by first | (dsimp only; omega) | exact LeS.le | exact LeS.add _ | (simp; done) | (simp; omega)) _))), rfl⟩
  case round =>
    obtain ⟨k, rfl, hk, ⟨z, rfl⟩, hall⟩ := hrel
    by_cases hlt : k < t.bs.length
    · obtain ⟨x, hxk⟩ := getElem?_some_of_lt hlt
      obtain ⟨b', off', px, cx, e', hb', f0, f1, f2, f3, f4, f5, hxs⟩ := HC.out k x hxk
      simp only [Option.some.injEq, Addr.mk.injEq, and_true] at e'
      obtain ⟨rfl, rfl⟩ := e'
      have k0 : (0 : Int) ≤ (k : Int) := by omega
      have Hxs := Lib.hid hxs; have Hall := Lib.hid hall
      have hn := newAt_find hxk
      have kv := fun w v h => sBlockValid_any x.1 x.2 v w h
      have Hxk := Lib.hid hxk
      clear hxk hxs hall
      rcases ho : x.1.okL x.2 with _ | _
      · rw [ho] at kv hn
        have hh := Lib.hid (Tree.ok_n hlt (by rw [hn]; rfl))
        clear hn
        go_wp2_with fail
        (refine wp_region_up (by kernel_rfl) (by kernel_rfl) ?_; (repeat (go_big_quiet_step ((go_at_call 32; exact Calls.up (kv _ _ (Hxs.out.up (by repeat (first | exact Ext.refl _ | refine Ext.up ?_ _ | refine Ext.alloc ?_ _ | refine Ext.drew ?_ | refine Ext.setRow ?_ (by first | (dsimp only; omega) | exact LeS.le | exact LeS.add _ | (simp; done) | (simp; omega)) _ | refine Ext.setCell ?_ (by first | (dsimp only; omega) | exact LeS.le | exact LeS.add _ | (simp; done) | (simp; omega)) _)))))))); refine wpQuiet_nil ?_; intro _ hw'; obtain ⟨zq, hw''⟩ := hw'; subst hw'')
        go_wp2_with fail
        go_ret
        exact ⟨by rw [hh.out]; rfl, (.of (by repeat (first | exact Ext.refl _ | refine Ext.up ?_ _ | refine Ext.alloc ?_ _ | refine Ext.drew ?_ | refine Ext.setRow ?_ (by first | (dsimp only; omega) | exact LeS.le | exact LeS.add _ | (simp; done) | (simp; omega)) _ | refine Ext.setCell ?_ (by first | (dsimp only; omega) | exact LeS.le | exact LeS.add _ | (simp; done) | (simp; omega)) _)))⟩
      rw [ho] at kv hn
      rcases ne_cases (findB t.bs (bsumOf x)) (k : Int) with ⟨w1, w1'⟩ | ⟨w1, w1'⟩
      · rw [decide_eq_false w1] at hn
        have hh := Lib.hid (Tree.ok_n hlt (by rw [hn]; rfl))
        have W1 := Lib.hid w1; clear w1 hn
        go_wp2_with fail
        (refine wp_region_up (by kernel_rfl) (by kernel_rfl) ?_; (repeat (go_big_quiet_step (first | (go_at_call 32; exact Calls.up (kv _ _ (Hxs.out.up (by repeat (first | exact Ext.refl _ | refine Ext.up ?_ _ | refine Ext.alloc ?_ _ | refine Ext.drew ?_ | refine Ext.setRow ?_ (by first | (dsimp only; omega) | exact LeS.le | exact LeS.add _ | (simp; done) | (simp; omega)) _ | refine Ext.setCell ?_ (by first | (dsimp only; omega) | exact LeS.le | exact LeS.add _ | (simp; done) | (simp; omega)) _))))) | (go_at_call 34; exact Calls.up (sBS_any x _ _ (Hxs.out.up (by repeat (first | exact Ext.refl _ | refine Ext.up ?_ _ | refine Ext.alloc ?_ _ | refine Ext.drew ?_ | refine Ext.setRow ?_ (by first | (dsimp only; omega) | exact LeS.le | exact LeS.add _ | (simp; done) | (simp; omega)) _ | refine Ext.setCell ?_ (by first | (dsimp only; omega) | exact LeS.le | exact LeS.add _ | (simp; done) | (simp; omega)) _))))) | (go_at_call 33; exact Calls.up (l13Find_any t _ _ _ (bsumOf x) _ (HT.out.up (by repeat (first | exact Ext.refl _ | refine Ext.up ?_ _ | refine Ext.alloc ?_ _ | refine Ext.drew ?_ | refine Ext.setRow ?_ (by first | (dsimp only; omega) | exact LeS.le | exact LeS.add _ | (simp; done) | (simp; omega)) _ | refine Ext.setCell ?_ (by first | (dsimp only; omega) | exact LeS.le | exact LeS.add _ | (simp; done) | (simp; omega)) _)))))))); refine wpQuiet_nil ?_; intro _ hw'; obtain ⟨zq, hw''⟩ := hw'; subst hw'')
        go_wp2_with fail
        go_ret
        exact ⟨by rw [hh.out]; rfl, (.of (by repeat (first | exact Ext.refl _ | refine Ext.up ?_ _ | refine Ext.alloc ?_ _ | refine Ext.drew ?_ | refine Ext.setRow ?_ (by first | (dsimp only; omega) | exact LeS.le | exact LeS.add _ | (simp; done) | (simp; omega)) _ | refine Ext.setCell ?_ (by first | (dsimp only; omega) | exact LeS.le | exact LeS.add _ | (simp; done) | (simp; omega)) _)))⟩
      · rw [decide_eq_true w1] at hn
        have Hn := Lib.hid hn
        have W1 := Lib.hid w1; clear w1 hn
        go_wp2_with fail
        (refine wp_region_up (by kernel_rfl) (by kernel_rfl) ?_; (repeat (go_big_quiet_step (first | (go_at_call 32; exact Calls.up (kv _ _ (Hxs.out.up (by repeat (first | exact Ext.refl _ | refine Ext.up ?_ _ | refine Ext.alloc ?_ _ | refine Ext.drew ?_ | refine Ext.setRow ?_ (by first | (dsimp only; omega) | exact LeS.le | exact LeS.add _ | (simp; done) | (simp; omega)) _ | refine Ext.setCell ?_ (by first | (dsimp only; omega) | exact LeS.le | exact LeS.add _ | (simp; done) | (simp; omega)) _))))) | (go_at_call 34; exact Calls.up (sBS_any x _ _ (Hxs.out.up (by repeat (first | exact Ext.refl _ | refine Ext.up ?_ _ | refine Ext.alloc ?_ _ | refine Ext.drew ?_ | refine Ext.setRow ?_ (by first | (dsimp only; omega) | exact LeS.le | exact LeS.add _ | (simp; done) | (simp; omega)) _ | refine Ext.setCell ?_ (by first | (dsimp only; omega) | exact LeS.le | exact LeS.add _ | (simp; done) | (simp; omega)) _))))) | (go_at_call 33; exact Calls.up (l13Find_any t _ _ _ (bsumOf x) _ (HT.out.up (by repeat (first | exact Ext.refl _ | refine Ext.up ?_ _ | refine Ext.alloc ?_ _ | refine Ext.drew ?_ | refine Ext.setRow ?_ (by first | (dsimp only; omega) | exact LeS.le | exact LeS.add _ | (simp; done) | (simp; omega)) _ | refine Ext.setCell ?_ (by first | (dsimp only; omega) | exact LeS.le | exact LeS.add _ | (simp; done) | (simp; omega)) _)))))))); refine wpQuiet_nil ?_; intro _ hw'; obtain ⟨zq, hw''⟩ := hw'; subst hw'')
        go_wp2_with fail
        go_roundw
        case rel => exact ⟨k + 1, by go_num, by omega, (.of (by repeat (first | exact Ext.refl _ | refine Ext.up ?_ _ | refine Ext.alloc ?_ _ | refine Ext.drew ?_ | refine Ext.setRow ?_ (by first | (dsimp only; omega) | exact LeS.le | exact LeS.add _ | (simp; done) | (simp; omega)) _ | refine Ext.setCell ?_ (by first | (dsimp only; omega) | exact LeS.le | exact LeS.add _ | (simp; done) | (simp; omega)) _))), upTo_succ Hall.out (by rw [Hn.out]; rfl)⟩
        case measure => simp [intOf]; omega
    · obtain rfl : k = t.bs.length := by omega
      have Hnew := Lib.hid hall
      clear hall hk hlt
      go_wp2_with fail
      go_loopw [4, 5] (fun s4 _ wr => ∃ k : Nat, s4 = .int .i64 k ∧ 1 ≤ k ∧ k ≤ t.bs.length ∧ Up z.val wr ∧ upTo (linkAt t.bs t.pr) k = true) (fun s4 _ _ => t.bs.length - (intOf s4).toNat)
      case atStart => exact ⟨1, rfl, Nat.le_refl _, by omega, (.of (by repeat (first | exact Ext.refl _ | refine Ext.up ?_ _ | refine Ext.alloc ?_ _ | refine Ext.drew ?_ | refine Ext.setRow ?_ (by first | (dsimp only; omega) | exact LeS.le | exact LeS.add _ | (simp; done) | (simp; omega)) _ | refine Ext.setCell ?_ (by first | (dsimp only; omega) | exact LeS.le | exact LeS.add _ | (simp; done) | (simp; omega)) _))), upTo_succ rfl (linkAt_zero _ _)⟩
      case round =>
        obtain ⟨k, rfl, hk1, hk, ⟨z2, rfl⟩, hall⟩ := hrel
        by_cases hlt : k < t.bs.length
        · obtain ⟨x, hxk⟩ := getElem?_some_of_lt hlt
          obtain ⟨b', off', px, cx, e', hb', f0, f1, f2, f3, f4, f5, hxs⟩ := HC.out k x hxk
          simp only [Option.some.injEq, Addr.mk.injEq, and_true] at e'
          obtain ⟨rfl, rfl⟩ := e'
          obtain ⟨n, hn⟩ := getElem?_some_of_lt (show k < t.pr.length by have := Q3.out; omega)
          obtain ⟨b3, off3, e3, _, hc3⟩ := HP.out k n hn
          simp only [Option.some.injEq, Addr.mk.injEq, and_true] at e3
          obtain ⟨rfl, rfl⟩ := e3
          have g0 : w.cell? ⟨b2, off2 + k, none⟩ = some (.int .i64 n) := by have := hc3 0 _ rfl; simpa using this
          have k0 : (0 : Int) ≤ (k : Int) := by omega
          have k1 : (k : Int) < (t.pr.length : Int) := by have := Q3.out; omega
          have hxo := Blk.okL_in (newAt_ok hxk (upTo_iff.1 Hnew.out k hlt))
          obtain ⟨_, _, _, ⟨a0, a1⟩, _⟩ := hxo
          have Hxk := Lib.hid hxk; have Hn := Lib.hid hn; have Hall := Lib.hid hall
          clear hxk hn hc3 hall hxs
          have ki2 := fun w => l1In_any n 0 ((k : Int) - 1) w
          rcases qi : inR n 0 ((k : Int) - 1) with _ | _
          · rw [qi] at ki2
            have hh := Lib.hid (Tree.ok_l hlt (linkAt_out Hxk.out Hn.out hk1 qi))
            go_wp2_with fail
            (refine wp_region_up (by kernel_rfl) (by kernel_rfl) ?_; (repeat (go_big_quiet_step ((go_at_call 31; exact Calls.up_same (ki2 _))))); refine wpQuiet_nil ?_; intro _ hw'; obtain ⟨zq, hw''⟩ := hw'; subst hw'')
            go_wp2_with fail
            go_ret
            exact ⟨by rw [hh.out]; rfl, (.of (by repeat (first | exact Ext.refl _ | refine Ext.up ?_ _ | refine Ext.alloc ?_ _ | refine Ext.drew ?_ | refine Ext.setRow ?_ (by first | (dsimp only; omega) | exact LeS.le | exact LeS.add _ | (simp; done) | (simp; omega)) _ | refine Ext.setCell ?_ (by first | (dsimp only; omega) | exact LeS.le | exact LeS.add _ | (simp; done) | (simp; omega)) _)))⟩
          rw [qi] at ki2
          obtain ⟨i0, i1⟩ := inR_iff.1 qi
          obtain ⟨y, hy⟩ := getElem?_some_of_lt (show n.toNat < t.bs.length by omega)
          have hlk := linkAt_eq Hxk.out Hn.out hy hk1
          obtain ⟨b4, off4, py, cy, e4, _, r0, r1, r2, r3, r4, r5, hys⟩ := HC.out n.toNat y hy
          simp only [Option.some.injEq, Addr.mk.injEq, and_true] at e4
          obtain ⟨rfl, rfl⟩ := e4
          have nl1 : n < (t.bs.length : Int) := by omega
          have Hys := Lib.hid hys
          have Hlk := Lib.hid hlk; have Hy := Lib.hid hy; have Qi := Lib.hid qi
          clear hlk hy qi hys i1
          rcases ne_cases (bsumOf y) x.1.bf with ⟨w1, w1'⟩ | ⟨w1, w1'⟩
          · have hh := Lib.hid (Tree.ok_l hlt (by rw [Hlk.out, decide_eq_false w1]; simp))
            have W1 := Lib.hid w1; clear w1
            go_wp2_with fail
            (refine wp_region_up (by kernel_rfl) (by kernel_rfl) ?_; (repeat (go_big_quiet_step (first | (go_at_call 31; exact Calls.up_same (ki2 _)) | (go_at_call 34; exact Calls.up (sBS_any y _ _ (Hys.out.up (by repeat (first | exact Ext.refl _ | refine Ext.up ?_ _ | refine Ext.alloc ?_ _ | refine Ext.drew ?_ | refine Ext.setRow ?_ (by first | (dsimp only; omega) | exact LeS.le | exact LeS.add _ | (simp; done) | (simp; omega)) _ | refine Ext.setCell ?_ (by first | (dsimp only; omega) | exact LeS.le | exact LeS.add _ | (simp; done) | (simp; omega)) _)))))))); refine wpQuiet_nil ?_; intro _ hw'; obtain ⟨zq, hw''⟩ := hw'; subst hw'')
            go_wp2_with fail
            go_ret
            exact ⟨by rw [hh.out]; rfl, (.of (by repeat (first | exact Ext.refl _ | refine Ext.up ?_ _ | refine Ext.alloc ?_ _ | refine Ext.drew ?_ | refine Ext.setRow ?_ (by first | (dsimp only; omega) | exact LeS.le | exact LeS.add _ | (simp; done) | (simp; omega)) _ | refine Ext.setCell ?_ (by first | (dsimp only; omega) | exact LeS.le | exact LeS.add _ | (simp; done) | (simp; omega)) _)))⟩
          have W1 := Lib.hid w1; clear w1
          rcases ne_cases y.1.ht (x.1.ht - 1) with ⟨w2, w2'⟩ | ⟨w2, w2'⟩
          · have hh := Lib.hid (Tree.ok_l hlt (by rw [Hlk.out, decide_eq_false (show ¬ y.1.ht + 1 = x.1.ht by omega)]; simp))
            have W2 := Lib.hid w2; clear w2
            go_wp2_with fail
            (refine wp_region_up (by kernel_rfl) (by kernel_rfl) ?_; (repeat (go_big_quiet_step (first | (go_at_call 31; exact Calls.up_same (ki2 _)) | (go_at_call 34; exact Calls.up (sBS_any y _ _ (Hys.out.up (by repeat (first | exact Ext.refl _ | refine Ext.up ?_ _ | refine Ext.alloc ?_ _ | refine Ext.drew ?_ | refine Ext.setRow ?_ (by first | (dsimp only; omega) | exact LeS.le | exact LeS.add _ | (simp; done) | (simp; omega)) _ | refine Ext.setCell ?_ (by first | (dsimp only; omega) | exact LeS.le | exact LeS.add _ | (simp; done) | (simp; omega)) _)))))))); refine wpQuiet_nil ?_; intro _ hw'; obtain ⟨zq, hw''⟩ := hw'; subst hw'')
            go_wp2_with fail
            go_ret
            exact ⟨by rw [hh.out]; rfl, (.of (by repeat (first | exact Ext.refl _ | refine Ext.up ?_ _ | refine Ext.alloc ?_ _ | refine Ext.drew ?_ | refine Ext.setRow ?_ (by first | (dsimp only; omega) | exact LeS.le | exact LeS.add _ | (simp; done) | (simp; omega)) _ | refine Ext.setCell ?_ (by first | (dsimp only; omega) | exact LeS.le | exact LeS.add _ | (simp; done) | (simp; omega)) _)))⟩
          have W2 := Lib.hid w2; clear w2
          by_cases w3 : x.1.vw ≤ y.1.vw
          · have hh := Lib.hid (Tree.ok_l hlt (by rw [Hlk.out, decide_eq_false (show ¬ y.1.vw < x.1.vw by omega)]; simp))
            go_wp2_with fail
            (refine wp_region_up (by kernel_rfl) (by kernel_rfl) ?_; (repeat (go_big_quiet_step (first | (go_at_call 31; exact Calls.up_same (ki2 _)) | (go_at_call 34; exact Calls.up (sBS_any y _ _ (Hys.out.up (by repeat (first | exact Ext.refl _ | refine Ext.up ?_ _ | refine Ext.alloc ?_ _ | refine Ext.drew ?_ | refine Ext.setRow ?_ (by first | (dsimp only; omega) | exact LeS.le | exact LeS.add _ | (simp; done) | (simp; omega)) _ | refine Ext.setCell ?_ (by first | (dsimp only; omega) | exact LeS.le | exact LeS.add _ | (simp; done) | (simp; omega)) _)))))))); refine wpQuiet_nil ?_; intro _ hw'; obtain ⟨zq, hw''⟩ := hw'; subst hw'')
            go_wp2_with fail
            go_ret
            exact ⟨by rw [hh.out]; rfl, (.of (by repeat (first | exact Ext.refl _ | refine Ext.up ?_ _ | refine Ext.alloc ?_ _ | refine Ext.drew ?_ | refine Ext.setRow ?_ (by first | (dsimp only; omega) | exact LeS.le | exact LeS.add _ | (simp; done) | (simp; omega)) _ | refine Ext.setCell ?_ (by first | (dsimp only; omega) | exact LeS.le | exact LeS.add _ | (simp; done) | (simp; omega)) _)))⟩
          have hh := Lib.hid (show linkAt t.bs t.pr k = true by rw [Hlk.out, Qi.out, decide_eq_true W1.out, decide_eq_true (show y.1.ht + 1 = x.1.ht by have := W2.out; omega), decide_eq_true (show y.1.vw < x.1.vw by omega)]; rfl)
          go_wp2_with fail
          (refine wp_region_up (by kernel_rfl) (by kernel_rfl) ?_; (repeat (go_big_quiet_step (first | (go_at_call 31; exact Calls.up_same (ki2 _)) | (go_at_call 34; exact Calls.up (sBS_any y _ _ (Hys.out.up (by repeat (first | exact Ext.refl _ | refine Ext.up ?_ _ | refine Ext.alloc ?_ _ | refine Ext.drew ?_ | refine Ext.setRow ?_ (by first | (dsimp only; omega) | exact LeS.le | exact LeS.add _ | (simp; done) | (simp; omega)) _ | refine Ext.setCell ?_ (by first | (dsimp only; omega) | exact LeS.le | exact LeS.add _ | (simp; done) | (simp; omega)) _)))))))); refine wpQuiet_nil ?_; intro _ hw'; obtain ⟨zq, hw''⟩ := hw'; subst hw'')
          go_wp2_with fail
          go_roundw
          case rel => exact ⟨k + 1, by go_num, by omega, by omega, (.of (by repeat (first | exact Ext.refl _ | refine Ext.up ?_ _ | refine Ext.alloc ?_ _ | refine Ext.drew ?_ | refine Ext.setRow ?_ (by first | (dsimp only; omega) | exact LeS.le | exact LeS.add _ | (simp; done) | (simp; omega)) _ | refine Ext.setCell ?_ (by first | (dsimp only; omega) | exact LeS.le | exact LeS.add _ | (simp; done) | (simp; omega)) _))), upTo_succ Hall.out hh.out⟩
          case measure => simp [intOf]; omega
        · obtain rfl : k = t.bs.length := by omega
          have Hl := Lib.hid hall
          clear hall
          have Hok := Lib.hid (show t.ok = sameF x0 (firstB t.base) by
            unfold Tree.ok
            rw [Hhead.out, Hnew.out, Hl.out]
            simp [Tree.first, HX0.out])
          go_wp2_with fail
          (refine wp_region_up (by kernel_rfl) (by kernel_rfl) ?_; (repeat (go_big_quiet_step (first | (go_at_call 36; exact Calls.up (sFirstBlock_any t.base _ _ (H0.out.up (by repeat (first | exact Ext.refl _ | refine Ext.up ?_ _ | refine Ext.alloc ?_ _ | refine Ext.drew ?_ | refine Ext.setRow ?_ (by first | (dsimp only; omega) | exact LeS.le | exact LeS.add _ | (simp; done) | (simp; omega)) _ | refine Ext.setCell ?_ (by first | (dsimp only; omega) | exact LeS.le | exact LeS.add _ | (simp; done) | (simp; omega)) _))))) | (go_at_call 35; exact Calls.up (sSame_any x0 (firstB t.base) _ _ (Hx.out.up (by repeat (first | exact Ext.refl _ | refine Ext.up ?_ _ | refine Ext.alloc ?_ _ | refine Ext.drew ?_ | refine Ext.setRow ?_ (by first | (dsimp only; omega) | exact LeS.le | exact LeS.add _ | (simp; done) | (simp; omega)) _ | refine Ext.setCell ?_ (by first | (dsimp only; omega) | exact LeS.le | exact LeS.add _ | (simp; done) | (simp; omega)) _)))))))); refine wpQuiet_nil ?_; intro _ hw'; obtain ⟨zq, hw''⟩ := hw'; subst hw'')
          go_wp2_with fail
          go_ret
          exact ⟨by rw [Hok.out]; rfl, (.of (by repeat (first | exact Ext.refl _ | refine Ext.up ?_ _ | refine Ext.alloc ?_ _ | refine Ext.drew ?_ | refine Ext.setRow ?_ (by first | (dsimp only; omega) | exact LeS.le | exact LeS.add _ | (simp; done) | (simp; omega)) _ | refine Ext.setCell ?_ (by first | (dsimp only; omega) | exact LeS.le | exact LeS.add _ | (simp; done) | (simp; omega)) _)))⟩
end Go.Proofs.YteiemjebdhmnaaaGreat
namespace Go.Proofs.YteiemjebdhmnaaaGreat
open Go Go.RowKit Go.Proofs

theorem Tree.ok_parts {t : Tree} (h : t.ok = true) : t.head = true ∧ t.first = true ∧ upTo (newAt t.bs) t.bs.length = true ∧ upTo (linkAt t.bs t.pr) t.bs.length = true := by
  simpa [Tree.ok] using h
theorem Tree.head_parts {t : Tree} (h : t.head = true) : entsOk 1 t.base = true ∧ (1 ≤ t.bs.length ∧ t.bs.length ≤ 14) ∧ t.pr.length = t.bs.length ∧ t.pr.getD 0 0 = -1 := by
  simp only [Tree.head, Bool.and_eq_true, inR_iff, decide_eq_true_eq] at h
  exact ⟨h.1, by omega, h.2.2.1, h.2.2.2⟩
def findR (t : Tree) (sum : Int) : Int := if t.ok = true then findB t.bs sum else -1
theorem findB_neg {t : Tree} {sum : Int} (h : t.ok = true) (hs : sum < 0) : findB t.bs sum = -1 := by
  refine findB_none (upTo_iff.2 fun i hi => ?_)
  obtain ⟨x, hx⟩ := getElem?_some_of_lt hi
  have hn := newAt_ok hx (upTo_iff.1 (Tree.ok_parts h).2.2.1 i hi)
  have := (bsum_ge hn).1
  have hne : bsumOf x ≠ sum := by unfold bsumOf; omega
  simp only [hx]; simpa using hne
/-- Every block's number in Before is less. -/
theorem Tree.pr_lt {t : Tree} (h : t.ok = true) {i : Nat} {n : Int} (hn : t.pr[i]? = some n) : -1 ≤ n ∧ n < (i : Int) := by
  obtain ⟨h1, _, _, h4⟩ := Tree.ok_parts h
  obtain ⟨_, _, hl, h0⟩ := Tree.head_parts h1
  have hi : i < t.bs.length := by have := (List.getElem?_eq_some_iff.1 hn).1; omega
  by_cases hz : i = 0
  · subst hz
    rw [getD_of hn] at h0
    omega
  · have hlk := upTo_iff.1 h4 i hi
    obtain ⟨x, hx⟩ := getElem?_some_of_lt hi
    unfold linkAt at hlk
    simp only [hx, hn, hz, decide_false, Bool.false_or, Bool.and_eq_true, inR_iff] at hlk
    omega
/-- The way up from a block. -/
def climb (pr : List Int) : Nat → Int → List Int
  | 0, _ => []
  | f + 1, n => if n < 0 then [] else n :: climb pr f (pr.getD n.toNat (-1))
theorem climb_neg (pr : List Int) (f : Nat) {n : Int} (h : n < 0) : climb pr f n = [] := by cases f <;> simp [climb, h]
theorem climb_step {pr : List Int} {f : Nat} {n m : Int} (h : 0 ≤ n) (hm : pr[n.toNat]? = some m) : climb pr (f + 1) n = n :: climb pr f m := by
  have h2 : ¬ n < 0 := by omega
  simp [climb, h2, List.getD, hm]
theorem climb_le (pr : List Int) : ∀ (f : Nat) (n : Int), (climb pr f n).length ≤ f
  | 0, _ => by simp [climb]
  | f + 1, n => by
    unfold climb
    split
    · simp
    · have := climb_le pr f (pr.getD n.toNat (-1)); rw [List.length_cons]; omega
theorem own_empty (e lo : Nat) (w : World) (g : Nat) (hg : g = w.heap.size) (hlo : lo ≤ w.heap.size) : Own encI e 1 lo (w.alloc (.cells #[] e)) (.slice (some ⟨g, 0, none⟩) 0 0) [] := Own.lit hg hlo rfl rfl encI_length (Nat.zero_le _)
def pathB (t : Tree) (n : Int) : List Int := (climb t.pr t.bs.length n).reverse
def hasN (t : Tree) (n : Int) : Bool := inR n 0 ((t.bs.length : Int) - 1)
def pathR (t : Tree) (n : Int) : List Int := if (t.ok && hasN t n) = true then pathB t n else []
theorem pathR_yes {t : Tree} {n : Int} (h : t.ok = true) (h' : hasN t n = true) : pathR t n = pathB t n := by unfold pathR; rw [h, h']; rfl
theorem pathR_no1 {t : Tree} {n : Int} (h : t.ok = false) : pathR t n = [] := by unfold pathR; rw [h]; rfl
theorem pathR_no2 {t : Tree} {n : Int} (h : hasN t n = false) : pathR t n = [] := by unfold pathR; rw [h, Bool.and_false]; rfl
/-- append of a slice of the call's own. -/
theorem wpList_pushX {P : Program} {t e sz bytes : Nat} (F : AppFacts P t e sz bytes) {ops : Array Oper} {rest : List Oper} {o : Oper} {a : Act} {Q : Exit → Act → World → Prop} (hgd : o.guard = none) (s x : Operand)
    (ho : o.op = .call { callee := .builtin .append, args := #[s, x], argTypes := #[t, t] }) {α : Type} (enc : α → List Value) (he : ∀ x, (enc x).length = sz) (Wb : World) {lo lo2 : Nat} {w : World} (ys : List α) (l : List α) {v : Value} (hs : a.eval s = v)
    (hown : Own enc e sz lo w v l) (hE : Ext Wb w) (hlo : Wb.heap.size ≤ lo) (hlo' : lo ≤ w.heap.size) {g m c : Nat} (hx : a.eval x = .slice (some ⟨g, 0, none⟩) m c) (hm : m = ys.length) (hys : Own enc e sz lo2 w (.slice (some ⟨g, 0, none⟩) m c) ys)
    (h1 : ∀ u ∈ ys.flatMap enc, u.oneCell' = true) (hb : (l.length + ys.length) * bytes ≤ 140737488355328) (hb' : l.length + ys.length ≤ 9223372036854775807)
    (h : ∀ v' (z1 : Extd Wb), Own enc e sz lo z1.val v' (l ++ ys) → w.grownBy z1.val v.ownBlock → (v'.ownBlock = v.ownBlock ∨ v'.ownBlock = some w.heap.size) → wpList P ops Q rest (a.put o.dst v') z1.val) : wpList P ops Q (o :: rest) a w := by
  subst hm
  obtain ⟨i, z, hi, hz, hsize, hby, hzs⟩ := F.info
  have hown' : w.ownsRow lo e sz v l.length (l.flatMap enc) := hown
  have hys' : w.ownsRow lo2 e sz (.slice (some ⟨g, 0, none⟩) ys.length c) ys.length (ys.flatMap enc) := hys
  refine wpList_append_own_at _ hgd s x t ho lo e i z sz bytes F.und hi hz hsize hby hzs F.pos v l.length (l.flatMap enc) hs hown' ⟨g, 0, none⟩ ys.length c (ys.flatMap enc) hx (flatMap_length he ys) (fun j u hu => ?_) h1 (by simpa [maxLen] using hb') hb hlo' ?_
  · have e1 : (⟨g, 0, none⟩ : Addr).add j = ⟨g, j, none⟩ := by unfold Addr.add; split <;> simp_all
    rw [e1]
    have hj := (List.getElem?_eq_some_iff.1 hu).1
    rw [flatMap_length he] at hj
    exact (hys'.cellAt j (by omega)).trans hu
  · intro v' w1 hown1 hg1 _ hblk
    refine h v' ⟨w1, hE.grown hg1 fun k hk => Nat.le_trans hlo (World.ownsRow.lt hown' k hk).1⟩ ?_ hg1 hblk
    show w1.ownsRow _ _ _ _ _ _
    simpa [Own] using hown1
theorem Own.ne {α : Type} {enc : α → List Value} {e sz lo : Nat} {w : World} {v : Value} {l : List α} (h : Own enc e sz lo w v l) (hne : l ≠ []) : ∃ g c, v = .slice (some ⟨g, 0, none⟩) l.length c := by
  rcases h.2 with ⟨_, hn⟩ | ⟨g, cap, cur, hv, _⟩
  · exact absurd (List.eq_nil_of_length_eq_zero hn) hne
  · exact ⟨g, cap, hv⟩
theorem has_any (t : Tree) (v0 v1 v2 : Value) (n : Int) (w : World) (h : ST w v0 v1 v2 t) :
    Calls Tryz.prog 41 #[.agg #[v0, v1, v2], .int .i64 n] w fun e w' => e = .returned (.bool (hasN t n)) ∧ Up w w' := by
  obtain ⟨p0, c0, rfl, _, _⟩ := h.base.openc
  obtain ⟨p1, c1, rfl, hl, _⟩ := h.bs.openc
  obtain ⟨p2, c2, rfl, _, _⟩ := h.pr.openc
  clear h
  go_enter Tryz.func41, Tryz.ntmps41
  go_wp2_with (go_at_call 43; refine (in_any _ _ _ _).mono ?_; rintro e w' ⟨rfl, rfl⟩)
  go_ret
  exact ⟨rfl, (.of (by repeat (first | (with_reducible exact Ext.refl _) | (with_reducible refine Ext.up ?_ _) | (with_reducible refine Ext.alloc ?_ _) | (with_reducible refine Ext.drew ?_) | (with_reducible refine Ext.setRow ?_ (by first | exact LeS.le | exact LeS.add _ | (simp; done) | (simp; omega)) _) | (with_reducible refine Ext.setCell ?_ (by first | exact LeS.le | exact LeS.add _ | (simp; done) | (simp; omega)) _))))⟩
set_option maxRecDepth 100000 in
set_option maxHeartbeats 1000000 in
theorem sPathTo_any (t : Tree) (v0 v1 v2 : Value) (n : Int) (w : World) (h : ST w v0 v1 v2 t) :
    Calls Tryz.prog 99 #[.agg #[v0, v1, v2], .int .i64 n] w fun e w' => ∃ v', e = .returned v' ∧ Up w w' ∧ Own encI 3 1 w.heap.size w' v' (pathR t n) := by
  have H := Lib.hid h
  obtain ⟨p0, c0, rfl, _, _⟩ := h.base.openc
  obtain ⟨p1, c1, rfl, hl1, _⟩ := h.bs.openc
  obtain ⟨p2, c2, rfl, hlp, hcp⟩ := h.pr.open
  clear h
  have kv := fun w h => sTreeValid_any t (.slice p0 t.base.length c0) (.slice p1 t.bs.length c1) (.slice p2 t.pr.length c2) w h
  rcases ho : t.ok with _ | _
  · rw [ho] at kv
    rw [pathR_no1 ho]
    go_enter Tryz.func99, Tryz.ntmps99
    go_wp2_with fail
    refine wp_loop_rounds 1 ?_; rw [rounds_succ]
    go_wp2_with (go_at_call 9; refine (kv _ (H.out.up (by repeat (first | (with_reducible exact Ext.refl _) | (with_reducible refine Ext.up ?_ _) | (with_reducible refine Ext.alloc ?_ _) | (with_reducible refine Ext.drew ?_) | (with_reducible refine Ext.setRow ?_ (by first | exact LeS.le | exact LeS.add _ | (simp; done) | (simp; omega)) _) | (with_reducible refine Ext.setCell ?_ (by first | exact LeS.le | exact LeS.add _ | (simp; done) | (simp; omega)) _))))).mono ?_; rintro e w' ⟨rfl, z, rfl⟩)
    go_ret
    refine ⟨_, rfl, (.of (by repeat (first | (with_reducible exact Ext.refl _) | (with_reducible refine Ext.up ?_ _) | (with_reducible refine Ext.alloc ?_ _) | (with_reducible refine Ext.drew ?_) | (with_reducible refine Ext.setRow ?_ (by first | exact LeS.le | exact LeS.add _ | (simp; done) | (simp; omega)) _) | (with_reducible refine Ext.setCell ?_ (by first | exact LeS.le | exact LeS.add _ | (simp; done) | (simp; omega)) _)))), ?_⟩
    show Own encI 3 1 w.heap.size _ (.slice (some ⟨w.heap.size + 1, 0, none⟩) 0 0) []
    exact Own.up (own_empty 3 w.heap.size (w.alloc (.cells #[.slice p0 t.base.length c0, .slice p1 t.bs.length c1, .slice p2 t.pr.length c2] 27)) (w.heap.size + 1) (by simp) (by simp)) (by repeat (first | (with_reducible exact Ext.refl _) | (with_reducible refine Ext.up ?_ _) | (with_reducible refine Ext.alloc ?_ _) | (with_reducible refine Ext.drew ?_) | (with_reducible refine Ext.setRow ?_ (by first | exact LeS.le | exact LeS.add _ | (simp; done) | (simp; omega)) _) | (with_reducible refine Ext.setCell ?_ (by first | exact LeS.le | exact LeS.add _ | (simp; done) | (simp; omega)) _)))
  rw [ho] at kv
  have kn := fun n w => l1In_any n 0 ((t.bs.length : Int) - 1) w
  rcases hn : hasN t n with _ | _
  · have kn0 := fun w => kn n w
    have hn' : inR n 0 ((t.bs.length : Int) - 1) = false := hn
    rw [hn'] at kn0
    rw [pathR_no2 hn]
    clear kn
    go_enter Tryz.func99, Tryz.ntmps99
    go_wp2_with fail
    refine wp_loop_rounds 1 ?_; rw [rounds_succ]
    go_wp2_with (first | (go_at_call 9; refine (kv _ (H.out.up (by repeat (first | (with_reducible exact Ext.refl _) | (with_reducible refine Ext.up ?_ _) | (with_reducible refine Ext.alloc ?_ _) | (with_reducible refine Ext.drew ?_) | (with_reducible refine Ext.setRow ?_ (by first | exact LeS.le | exact LeS.add _ | (simp; done) | (simp; omega)) _) | (with_reducible refine Ext.setCell ?_ (by first | exact LeS.le | exact LeS.add _ | (simp; done) | (simp; omega)) _))))).mono ?_; rintro e w' ⟨rfl, z, rfl⟩) | (go_at_call 31; refine (kn0 _).mono ?_; rintro e w' ⟨rfl, rfl⟩))
    go_ret
    refine ⟨_, rfl, (.of (by repeat (first | (with_reducible exact Ext.refl _) | (with_reducible refine Ext.up ?_ _) | (with_reducible refine Ext.alloc ?_ _) | (with_reducible refine Ext.drew ?_) | (with_reducible refine Ext.setRow ?_ (by first | exact LeS.le | exact LeS.add _ | (simp; done) | (simp; omega)) _) | (with_reducible refine Ext.setCell ?_ (by first | exact LeS.le | exact LeS.add _ | (simp; done) | (simp; omega)) _)))), ?_⟩
    show Own encI 3 1 w.heap.size _ (.slice (some ⟨w.heap.size + 1, 0, none⟩) 0 0) []
    exact Own.up (own_empty 3 w.heap.size (w.alloc (.cells #[.slice p0 t.base.length c0, .slice p1 t.bs.length c1, .slice p2 t.pr.length c2] 27)) (w.heap.size + 1) (by simp) (by simp)) (by repeat (first | (with_reducible exact Ext.refl _) | (with_reducible refine Ext.up ?_ _) | (with_reducible refine Ext.alloc ?_ _) | (with_reducible refine Ext.drew ?_) | (with_reducible refine Ext.setRow ?_ (by first | exact LeS.le | exact LeS.add _ | (simp; done) | (simp; omega)) _) | (with_reducible refine Ext.setCell ?_ (by first | exact LeS.le | exact LeS.add _ | (simp; done) | (simp; omega)) _)))
  rw [pathR_yes ho hn]
  have hp := Lib.hid (fun (i : Nat) (m : Int) (hm : t.pr[i]? = some m) => Tree.pr_lt ho hm)
  obtain ⟨hn0, hn1⟩ := inR_iff.1 (show inR n 0 ((t.bs.length : Int) - 1) = true from hn)
  have hl14 : t.bs.length ≤ 14 := (Tree.head_parts (Tree.ok_parts ho).1).2.1.2
  have hpl : t.pr.length = t.bs.length := (Tree.head_parts (Tree.ok_parts ho).1).2.2.1
  have HP := Lib.hid hcp
  have Hpl := Lib.hid hpl
  clear hcp hn ho hpl
  go_enter Tryz.func99, Tryz.ntmps99
  go_wp2_with fail
  go_loopw [1, 5] (fun s1 s5 wr => ∃ (m : Int) (f : Nat) (out : List Int), s1 = .int .i64 m ∧ -1 ≤ m ∧ m < t.bs.length ∧ m < f ∧ (climb t.pr f m).reverse ++ out = pathB t n ∧ f + out.length = t.bs.length ∧ Up (w.alloc (.cells #[.slice p0 t.base.length c0, .slice p1 t.bs.length c1, .slice p2 t.pr.length c2] 27)) wr ∧ Own encI 3 1 (w.heap.size + 1) wr s5 out ∧ ∃ g c, s5 = .slice (some ⟨g, 0, none⟩) out.length c) (fun s1 _ _ => ((intOf s1) + 1).toNat)
  case atStart => exact ⟨n, t.bs.length, [], rfl, by omega, by omega, by omega, by simp [pathB], by simp, (.of (by repeat (first | (with_reducible exact Ext.refl _) | (with_reducible refine Ext.up ?_ _) | (with_reducible refine Ext.alloc ?_ _) | (with_reducible refine Ext.drew ?_) | (with_reducible refine Ext.setRow ?_ (by first | exact LeS.le | exact LeS.add _ | (simp; done) | (simp; omega)) _) | (with_reducible refine Ext.setCell ?_ (by first | exact LeS.le | exact LeS.add _ | (simp; done) | (simp; omega)) _)))), own_empty _ _ _ _ (by simp) (by simp), _, _, rfl⟩
  case round =>
    obtain ⟨m, f, out, rfl, hm0, hm1, hmf, hcl, hfo, ⟨z, rfl⟩, hown, g5, c5, rfl⟩ := hrel
    have knm := fun w => kn m w
    by_cases hneg : m < 0
    · have hq : inR m 0 ((t.bs.length : Int) - 1) = false := by rw [inR_not]; omega
      rw [hq] at knm
      have hout : out = pathB t n := by rw [← hcl, climb_neg t.pr f hneg]; rfl
      subst hout
      have HO := Lib.hid hown; clear hown hcl kn
      go_wp2_with (first | (go_at_call 9; refine (kv _ (H.out.up (by repeat (first | (with_reducible exact Ext.refl _) | (with_reducible refine Ext.up ?_ _) | (with_reducible refine Ext.alloc ?_ _) | (with_reducible refine Ext.drew ?_) | (with_reducible refine Ext.setRow ?_ (by first | exact LeS.le | exact LeS.add _ | (simp; done) | (simp; omega)) _) | (with_reducible refine Ext.setCell ?_ (by first | exact LeS.le | exact LeS.add _ | (simp; done) | (simp; omega)) _))))).mono ?_; rintro e w' ⟨rfl, z1, rfl⟩) | (go_at_call 31; refine (knm _).mono ?_; rintro e w' ⟨rfl, rfl⟩))
      go_ret
      exact ⟨_, rfl, (.of (by repeat (first | (with_reducible exact Ext.refl _) | (with_reducible refine Ext.up ?_ _) | (with_reducible refine Ext.alloc ?_ _) | (with_reducible refine Ext.drew ?_) | (with_reducible refine Ext.setRow ?_ (by first | exact LeS.le | exact LeS.add _ | (simp; done) | (simp; omega)) _) | (with_reducible refine Ext.setCell ?_ (by first | exact LeS.le | exact LeS.add _ | (simp; done) | (simp; omega)) _)))), Own.lo (HO.out.up (by repeat (first | (with_reducible exact Ext.refl _) | (with_reducible refine Ext.up ?_ _) | (with_reducible refine Ext.alloc ?_ _) | (with_reducible refine Ext.drew ?_) | (with_reducible refine Ext.setRow ?_ (by first | exact LeS.le | exact LeS.add _ | (simp; done) | (simp; omega)) _) | (with_reducible refine Ext.setCell ?_ (by first | exact LeS.le | exact LeS.add _ | (simp; done) | (simp; omega)) _)))) (Nat.le_succ _)⟩
    · have hq : inR m 0 ((t.bs.length : Int) - 1) = true := by rw [inR_iff]; omega
      rw [hq] at knm
      obtain ⟨m', hm'⟩ := getElem?_some_of_lt (l := t.pr) (k := m.toNat) (by have := Hpl.out; omega)
      obtain ⟨b2, off2, rfl, hb2, hc2⟩ := HP.out m.toNat m' hm'
      have e0 : w.cell? ⟨b2, off2 + m.toNat, none⟩ = some (.int .i64 m') := by have := hc2 0 _ rfl; simpa using this
      obtain ⟨hm2, hm3⟩ := hp.out m.toNat m' hm'
      have m0 : 0 ≤ m := by omega
      have mp : m < (t.pr.length : Int) := by have := Hpl.out; omega
      obtain ⟨f', rfl⟩ : ∃ f', f = f' + 1 := ⟨f - 1, by omega⟩
      have hcl2 : (climb t.pr f' m').reverse ++ (m :: out) = pathB t n := by rw [← hcl, climb_step m0 hm']; simp
      have Hcl := Lib.hid hcl2
      have HO := Lib.hid hown; clear hown hcl hcl2 hm' hc2 kn
      have hol : out.length ≤ 14 := by omega
      go_wp2_with (first | (go_at_call 9; refine (kv _ (H.out.up (by repeat (first | (with_reducible exact Ext.refl _) | (with_reducible refine Ext.up ?_ _) | (with_reducible refine Ext.alloc ?_ _) | (with_reducible refine Ext.drew ?_) | (with_reducible refine Ext.setRow ?_ (by first | exact LeS.le | exact LeS.add _ | (simp; done) | (simp; omega)) _) | (with_reducible refine Ext.setCell ?_ (by first | exact LeS.le | exact LeS.add _ | (simp; done) | (simp; omega)) _))))).mono ?_; rintro e w' ⟨rfl, z1, rfl⟩) | (go_at_call 31; refine (knm _).mono ?_; rintro e w' ⟨rfl, rfl⟩) | (at_builtin; refine wpList_pushX fI rfl (.tmp 18) (.tmp 19) rfl encI encI_length (w.alloc (.cells #[.slice p0 t.base.length c0, .slice p1 t.bs.length c1, .slice (some ⟨b2, off2, none⟩) t.pr.length c2] 27)) (lo := z1.val.heap.size) out [m] rfl (Own.lit rfl (Nat.le_refl _) rfl rfl encI_length (by simp)) (by repeat (first | (with_reducible exact Ext.refl _) | (with_reducible refine Ext.up ?_ _) | (with_reducible refine Ext.alloc ?_ _) | (with_reducible refine Ext.drew ?_) | (with_reducible refine Ext.setRow ?_ (by first | exact LeS.le | exact LeS.add _ | (simp; done) | (simp; omega)) _) | (with_reducible refine Ext.setCell ?_ (by first | exact LeS.le | exact LeS.add _ | (simp; done) | (simp; omega)) _))) LeS.le (by simp) rfl rfl (HO.out.up (by repeat (first | (with_reducible exact Ext.refl _) | (with_reducible refine Ext.up ?_ _) | (with_reducible refine Ext.alloc ?_ _) | (with_reducible refine Ext.drew ?_) | (with_reducible refine Ext.setRow ?_ (by first | exact LeS.le | exact LeS.add _ | (simp; done) | (simp; omega)) _) | (with_reducible refine Ext.setCell ?_ (by first | exact LeS.le | exact LeS.add _ | (simp; done) | (simp; omega)) _)))) (oneIs _) (by simp; omega) (by simp; omega) ?_; intro v6 z6 o6 _ b6))
      have O6 := Lib.hid o6; clear o6
      go_wp2_with fail
      go_roundw
      case rel =>
        have hsz : w.heap.size + 1 ≤ z1.val.heap.size := by have h1 := z1.ext.size; have h2 := z.ext.size; simp at h1 h2; omega
        exact ⟨m', f', m :: out, rfl, hm2, by omega, by omega, Hcl.out, by rw [List.length_cons]; omega, ⟨z6, rfl⟩, Own.lo O6.out hsz, Own.ne O6.out (by simp)⟩
      case measure => simp [intOf]; omega
end Go.Proofs.YteiemjebdhmnaaaGreat
