/- Walks: trees that are valid. -/
import Derived.Test.YteiemjebdhmnaaaGSoTop15
set_option linter.unusedSimpArgs false
set_option linter.unusedVariables false
namespace Go.Proofs.Yteiemjebdhmnaaa
open Go Go.RowKit Go.Proofs

theorem newAt_eq {cs : List BL} {i : Nat} {x : BL} (h : cs[i]? = some x) : newAt cs i = (decide (0 ≤ bsumOf x) && !hasI (sumsOf (cs.take i)) (bsumOf x)) := by simp [newAt, h, hasI]
theorem linkAt_zero (cs : List BL) (pr : List Int) : linkAt cs pr 0 = true := by simp [linkAt]
theorem linkAt_eq {cs : List BL} {pr : List Int} {i : Nat} {x y : BL} {n : Int} (h : cs[i]? = some x) (hn : pr[i]? = some n) (hy : cs[n.toNat]? = some y) (h0 : 0 < i) : linkAt cs pr i = (inR n 0 ((i : Int) - 1) && (decide (bsumOf y = x.1.bf) && (decide (y.1.ht + 1 = x.1.ht) && decide (y.1.vw < x.1.vw)))) := by
  have : i ≠ 0 := by omega
  simp [linkAt, h, hn, hy, this]
theorem linkAt_out {cs : List BL} {pr : List Int} {i : Nat} {x : BL} {n : Int} (h : cs[i]? = some x) (hn : pr[i]? = some n) (h0 : 0 < i) (ho : inR n 0 ((i : Int) - 1) = false) : linkAt cs pr i = false := by
  have : i ≠ 0 := by omega
  simp [linkAt, h, hn, this, ho]
theorem newAt_ok {cs : List BL} {i : Nat} {x : BL} (h : cs[i]? = some x) (hn : newAt cs i = true) : x.1.okL x.2 = true := by
  rw [newAt_find h, Bool.and_eq_true] at hn; exact hn.1
theorem Tree.ok_h {t : Tree} (h : t.head = false) : t.ok = false := by simp [Tree.ok, h]
theorem Tree.ok_f {t : Tree} (h : t.first = false) : t.ok = false := by simp [Tree.ok, h]
theorem Tree.ok_n {t : Tree} {k : Nat} (hk : k < t.bs.length) (h : newAt t.bs k = false) : t.ok = false := by simp [Tree.ok, upTo_false hk h]
theorem Tree.ok_l {t : Tree} {k : Nat} (hk : k < t.bs.length) (h : linkAt t.bs t.pr k = false) : t.ok = false := by simp [Tree.ok, upTo_false hk h]
theorem Tree.ok_y {t : Tree} (h1 : t.head = true) (h2 : t.first = true) (h3 : upTo (newAt t.bs) t.bs.length = true) (h4 : upTo (linkAt t.bs t.pr) t.bs.length = true) : t.ok = true := by simp [Tree.ok, h1, h2, h3, h4]
def nl (t : Tree) (i : Nat) : Bool := newAt t.bs i && linkAt t.bs t.pr i
theorem sumsOf_at {cs : List BL} {n k : Nat} {y : BL} (h : cs[n]? = some y) (hn : n < k) : (sumsOf (cs.take k))[n]? = some (bsumOf y) := by
  simp [sumsOf, List.getElem?_take_of_lt hn, h]
theorem cell_of_block {w w' : World} {b : Nat} (h : w'.heap[b]? = w.heap[b]?) (i : Nat) : w'.cell? ⟨b, i, none⟩ = w.cell? ⟨b, i, none⟩ := by
  simp only [World.cell?, h]
set_option maxRecDepth 100000 in
set_option maxHeartbeats 1000000 in
theorem iTreeValid_any (t : Tree) (v0 v1 v2 : Value) (w : World) (h : ST w v0 v1 v2 t) :
    Calls Try.prog 29 #[.agg #[v0, v1, v2]] w fun e w' => e = .returned (.bool t.ok) ∧ Up w w' := by
  obtain ⟨h0, h1, h2⟩ := h
  obtain ⟨p0, c0, rfl, _, _⟩ := h0.openc
  obtain ⟨p2, c2, rfl, hlp, hcp⟩ := h2.open
  obtain ⟨a, cap, rfl, hlen, hcap, hc⟩ := h1.open
  have H0 := Lib.hid h0
  clear h0 h1 h2 hcap
  have ks := fun w v h => iStoreValid_any t.base v w h
  rcases q1 : entsOk 1 t.base with _ | _
  · rw [q1] at ks
    have hh := Tree.ok_h (show t.head = false by simp [Tree.head, q1])
    rw [hh]
    go_enter Try.func29, Try.ntmps29
    go_wp2_with fail
    (refine wp_region_up (by kernel_rfl) (by kernel_rfl) ?_; (repeat (go_big_quiet_step ((go_at_call 14; exact Calls.up (ks _ _ (H0.out.up (by repeat (first | exact Ext.refl _ | refine Ext.up ?_ _ | refine Ext.alloc ?_ _ | refine Ext.drew ?_ | refine Ext.setRow ?_ (by first | (dsimp only; omega) | exact LeS.le | exact LeS.add _ | (simp; done) | (simp; omega)) _ | refine Ext.setCell ?_ (by first | (dsimp only; omega) | exact LeS.le | exact LeS.add _ | (simp; done) | (simp; omega)) _)))))))); refine wpQuiet_nil ?_; intro _ hw'; obtain ⟨zq, hw''⟩ := hw'; subst hw'')
    go_wp2_with fail
    go_ret
    exact ⟨rfl, (.of (by repeat (first | exact Ext.refl _ | refine Ext.up ?_ _ | refine Ext.alloc ?_ _ | refine Ext.drew ?_ | refine Ext.setRow ?_ (by first | (dsimp only; omega) | exact LeS.le | exact LeS.add _ | (simp; done) | (simp; omega)) _ | refine Ext.setCell ?_ (by first | (dsimp only; omega) | exact LeS.le | exact LeS.add _ | (simp; done) | (simp; omega)) _)))⟩
  rw [q1] at ks
  have ki := fun w => in_any (t.bs.length : Int) 1 14 w
  rcases q2 : inR t.bs.length 1 14 with _ | _
  · rw [q2] at ki
    have hh := Tree.ok_h (show t.head = false by simp [Tree.head, q2])
    rw [hh]
    go_enter Try.func29, Try.ntmps29
    go_wp2_with fail
    (refine wp_region_up (by kernel_rfl) (by kernel_rfl) ?_; (repeat (go_big_quiet_step (first | (go_at_call 14; exact Calls.up (ks _ _ (H0.out.up (by repeat (first | exact Ext.refl _ | refine Ext.up ?_ _ | refine Ext.alloc ?_ _ | refine Ext.drew ?_ | refine Ext.setRow ?_ (by first | (dsimp only; omega) | exact LeS.le | exact LeS.add _ | (simp; done) | (simp; omega)) _ | refine Ext.setCell ?_ (by first | (dsimp only; omega) | exact LeS.le | exact LeS.add _ | (simp; done) | (simp; omega)) _))))) | (go_at_call 60; exact Calls.up_same (ki _))))); refine wpQuiet_nil ?_; intro _ hw'; obtain ⟨zq, hw''⟩ := hw'; subst hw'')
    go_wp2_with fail
    go_ret
    exact ⟨rfl, (.of (by repeat (first | exact Ext.refl _ | refine Ext.up ?_ _ | refine Ext.alloc ?_ _ | refine Ext.drew ?_ | refine Ext.setRow ?_ (by first | (dsimp only; omega) | exact LeS.le | exact LeS.add _ | (simp; done) | (simp; omega)) _ | refine Ext.setCell ?_ (by first | (dsimp only; omega) | exact LeS.le | exact LeS.add _ | (simp; done) | (simp; omega)) _)))⟩
  rw [q2] at ki
  obtain ⟨n1, n14⟩ := inR_iff.1 q2
  rcases ne_cases (t.pr.length : Int) (t.bs.length : Int) with ⟨q3, q3'⟩ | ⟨q3, q3'⟩
  · have hh := Tree.ok_h (show t.head = false by
      have : ¬ t.pr.length = t.bs.length := by omega
      simp [Tree.head, this])
    rw [hh]
    have Q3 := Lib.hid q3; clear q3
    go_enter Try.func29, Try.ntmps29
    go_wp2_with fail
    (refine wp_region_up (by kernel_rfl) (by kernel_rfl) ?_; (repeat (go_big_quiet_step (first | (go_at_call 14; exact Calls.up (ks _ _ (H0.out.up (by repeat (first | exact Ext.refl _ | refine Ext.up ?_ _ | refine Ext.alloc ?_ _ | refine Ext.drew ?_ | refine Ext.setRow ?_ (by first | (dsimp only; omega) | exact LeS.le | exact LeS.add _ | (simp; done) | (simp; omega)) _ | refine Ext.setCell ?_ (by first | (dsimp only; omega) | exact LeS.le | exact LeS.add _ | (simp; done) | (simp; omega)) _))))) | (go_at_call 60; exact Calls.up_same (ki _))))); refine wpQuiet_nil ?_; intro _ hw'; obtain ⟨zq, hw''⟩ := hw'; subst hw'')
    go_wp2_with fail
    go_ret
    exact ⟨rfl, (.of (by repeat (first | exact Ext.refl _ | refine Ext.up ?_ _ | refine Ext.alloc ?_ _ | refine Ext.drew ?_ | refine Ext.setRow ?_ (by first | (dsimp only; omega) | exact LeS.le | exact LeS.add _ | (simp; done) | (simp; omega)) _ | refine Ext.setCell ?_ (by first | (dsimp only; omega) | exact LeS.le | exact LeS.add _ | (simp; done) | (simp; omega)) _)))⟩
  obtain ⟨x0, hx0⟩ := getElem?_some_of_lt (show 0 < t.bs.length by omega)
  obtain ⟨m0, hm0⟩ := getElem?_some_of_lt (show 0 < t.pr.length by omega)
  obtain ⟨b, off, p, c, rfl, hb, d0, d1, d2, d3, d4, d5, hx⟩ := hc 0 x0 hx0
  obtain ⟨b2, off2, rfl, hb2, hc2⟩ := hcp 0 m0 hm0
  have e0 : w.cell? ⟨b2, off2, none⟩ = some (.int .i64 m0) := by have := hc2 0 _ rfl; simpa using this
  simp only [Nat.zero_mul, Nat.add_zero] at d0 d1 d2 d3 d4 d5
  have Hx := Lib.hid hx
  have l1 : (0 : Int) < (t.bs.length : Int) := by omega
  have l2 : (0 : Int) < (t.pr.length : Int) := by omega
  have HC := Lib.hid hc; have HP := Lib.hid hcp; have HX0 := Lib.hid hx0; have HM0 := Lib.hid hm0; have Q3 := Lib.hid q3; have Q2 := Lib.hid q2; have Q1 := Lib.hid q1
  clear hc hcp hc2 hx hx0 hm0 q3 q2 q1
  have kf := fun w v h => iSame_any x0 (firstB t.base) v w h
  rcases q4 : sameF x0 (firstB t.base) with _ | _
  · rw [q4] at kf
    have hh := Tree.ok_f (show t.first = false by simp [Tree.first, HX0.out, q4])
    rw [hh]
    go_enter Try.func29, Try.ntmps29
    go_wp2_with fail
    (refine wp_region_up (by kernel_rfl) (by kernel_rfl) ?_; (repeat (go_big_quiet_step (first | (go_at_call 14; exact Calls.up (ks _ _ (H0.out.up (by repeat (first | exact Ext.refl _ | refine Ext.up ?_ _ | refine Ext.alloc ?_ _ | refine Ext.drew ?_ | refine Ext.setRow ?_ (by first | (dsimp only; omega) | exact LeS.le | exact LeS.add _ | (simp; done) | (simp; omega)) _ | refine Ext.setCell ?_ (by first | (dsimp only; omega) | exact LeS.le | exact LeS.add _ | (simp; done) | (simp; omega)) _))))) | (go_at_call 60; exact Calls.up_same (ki _)) | (go_at_call 62; exact Calls.up (iFirstBlock_any t.base _ _ (H0.out.up (by repeat (first | exact Ext.refl _ | refine Ext.up ?_ _ | refine Ext.alloc ?_ _ | refine Ext.drew ?_ | refine Ext.setRow ?_ (by first | (dsimp only; omega) | exact LeS.le | exact LeS.add _ | (simp; done) | (simp; omega)) _ | refine Ext.setCell ?_ (by first | (dsimp only; omega) | exact LeS.le | exact LeS.add _ | (simp; done) | (simp; omega)) _))))) | (go_at_call 61; exact Calls.up (kf _ _ (Hx.out.up (by repeat (first | exact Ext.refl _ | refine Ext.up ?_ _ | refine Ext.alloc ?_ _ | refine Ext.drew ?_ | refine Ext.setRow ?_ (by first | (dsimp only; omega) | exact LeS.le | exact LeS.add _ | (simp; done) | (simp; omega)) _ | refine Ext.setCell ?_ (by first | (dsimp only; omega) | exact LeS.le | exact LeS.add _ | (simp; done) | (simp; omega)) _)))))))); refine wpQuiet_nil ?_; intro _ hw'; obtain ⟨zq, hw''⟩ := hw'; subst hw'')
    go_wp2_with fail
    go_ret
    exact ⟨rfl, (.of (by repeat (first | exact Ext.refl _ | refine Ext.up ?_ _ | refine Ext.alloc ?_ _ | refine Ext.drew ?_ | refine Ext.setRow ?_ (by first | (dsimp only; omega) | exact LeS.le | exact LeS.add _ | (simp; done) | (simp; omega)) _ | refine Ext.setCell ?_ (by first | (dsimp only; omega) | exact LeS.le | exact LeS.add _ | (simp; done) | (simp; omega)) _)))⟩
  rw [q4] at kf
  have Q4 := Lib.hid q4; clear q4
  rcases ne_cases m0 (-1) with ⟨q5, q5'⟩ | ⟨q5, q5'⟩
  · have hh := Tree.ok_h (show t.head = false by
      have : ¬ t.pr.getD 0 0 = -1 := by rw [getD_of HM0.out]; exact q5
      simp only [Tree.head, decide_eq_false this, Bool.and_false])
    rw [hh]
    have Q5 := Lib.hid q5; clear q5
    go_enter Try.func29, Try.ntmps29
    go_wp2_with fail
    (refine wp_region_up (by kernel_rfl) (by kernel_rfl) ?_; (repeat (go_big_quiet_step (first | (go_at_call 14; exact Calls.up (ks _ _ (H0.out.up (by repeat (first | exact Ext.refl _ | refine Ext.up ?_ _ | refine Ext.alloc ?_ _ | refine Ext.drew ?_ | refine Ext.setRow ?_ (by first | (dsimp only; omega) | exact LeS.le | exact LeS.add _ | (simp; done) | (simp; omega)) _ | refine Ext.setCell ?_ (by first | (dsimp only; omega) | exact LeS.le | exact LeS.add _ | (simp; done) | (simp; omega)) _))))) | (go_at_call 60; exact Calls.up_same (ki _)) | (go_at_call 62; exact Calls.up (iFirstBlock_any t.base _ _ (H0.out.up (by repeat (first | exact Ext.refl _ | refine Ext.up ?_ _ | refine Ext.alloc ?_ _ | refine Ext.drew ?_ | refine Ext.setRow ?_ (by first | (dsimp only; omega) | exact LeS.le | exact LeS.add _ | (simp; done) | (simp; omega)) _ | refine Ext.setCell ?_ (by first | (dsimp only; omega) | exact LeS.le | exact LeS.add _ | (simp; done) | (simp; omega)) _))))) | (go_at_call 61; exact Calls.up (kf _ _ (Hx.out.up (by repeat (first | exact Ext.refl _ | refine Ext.up ?_ _ | refine Ext.alloc ?_ _ | refine Ext.drew ?_ | refine Ext.setRow ?_ (by first | (dsimp only; omega) | exact LeS.le | exact LeS.add _ | (simp; done) | (simp; omega)) _ | refine Ext.setCell ?_ (by first | (dsimp only; omega) | exact LeS.le | exact LeS.add _ | (simp; done) | (simp; omega)) _)))))))); refine wpQuiet_nil ?_; intro _ hw'; obtain ⟨zq, hw''⟩ := hw'; subst hw'')
    go_wp2_with fail
    go_ret
    exact ⟨rfl, (.of (by repeat (first | exact Ext.refl _ | refine Ext.up ?_ _ | refine Ext.alloc ?_ _ | refine Ext.drew ?_ | refine Ext.setRow ?_ (by first | (dsimp only; omega) | exact LeS.le | exact LeS.add _ | (simp; done) | (simp; omega)) _ | refine Ext.setCell ?_ (by first | (dsimp only; omega) | exact LeS.le | exact LeS.add _ | (simp; done) | (simp; omega)) _)))⟩
  have Hhead := Lib.hid (show t.head = true by
    have h3 : t.pr.length = t.bs.length := by have := Q3.out; omega
    have h5 : t.pr.getD 0 0 = -1 := by rw [getD_of HM0.out]; exact q5
    simp only [Tree.head, Q1.out, Q2.out, h3, h5, decide_true, Bool.and_self])
  have Hfirst := Lib.hid (show t.first = true by simp [Tree.first, HX0.out, Q4.out])
  subst q5
  clear q5'
  go_enter Try.func29, Try.ntmps29
  go_wp2_with fail
  (refine wp_region_up (by kernel_rfl) (by kernel_rfl) ?_; (repeat (go_big_quiet_step (first | (go_at_call 14; exact Calls.up (ks _ _ (H0.out.up (by repeat (first | exact Ext.refl _ | refine Ext.up ?_ _ | refine Ext.alloc ?_ _ | refine Ext.drew ?_ | refine Ext.setRow ?_ (by first | (dsimp only; omega) | exact LeS.le | exact LeS.add _ | (simp; done) | (simp; omega)) _ | refine Ext.setCell ?_ (by first | (dsimp only; omega) | exact LeS.le | exact LeS.add _ | (simp; done) | (simp; omega)) _))))) | (go_at_call 60; exact Calls.up_same (ki _)) | (go_at_call 62; exact Calls.up (iFirstBlock_any t.base _ _ (H0.out.up (by repeat (first | exact Ext.refl _ | refine Ext.up ?_ _ | refine Ext.alloc ?_ _ | refine Ext.drew ?_ | refine Ext.setRow ?_ (by first | (dsimp only; omega) | exact LeS.le | exact LeS.add _ | (simp; done) | (simp; omega)) _ | refine Ext.setCell ?_ (by first | (dsimp only; omega) | exact LeS.le | exact LeS.add _ | (simp; done) | (simp; omega)) _))))) | (go_at_call 61; exact Calls.up (kf _ _ (Hx.out.up (by repeat (first | exact Ext.refl _ | refine Ext.up ?_ _ | refine Ext.alloc ?_ _ | refine Ext.drew ?_ | refine Ext.setRow ?_ (by first | (dsimp only; omega) | exact LeS.le | exact LeS.add _ | (simp; done) | (simp; omega)) _ | refine Ext.setCell ?_ (by first | (dsimp only; omega) | exact LeS.le | exact LeS.add _ | (simp; done) | (simp; omega)) _)))))))); refine wpQuiet_nil ?_; intro _ hw'; obtain ⟨zq, hw''⟩ := hw'; subst hw'')
  go_wp2_with fail
  go_loopw [3, 4, 5, 6, 7, 49] (fun s3 _ _ _ _ s49 wr => ∃ k : Nat, s49 = .int .i64 k ∧ k ≤ t.bs.length ∧ Up zq.val wr ∧ Own encI 3 1 zq.val.heap.size wr s3 (sumsOf (t.bs.take k)) ∧ upTo (nl t) k = true) (fun _ _ _ _ _ s49 _ => t.bs.length - (intOf s49).toNat)
  case atStart => exact ⟨0, rfl, Nat.zero_le _, (.of (by repeat (first | (with_reducible exact Ext.refl _) | (with_reducible refine Ext.up ?_ _) | (with_reducible refine Ext.alloc ?_ _) | (with_reducible refine Ext.drew ?_) | (with_reducible refine Ext.setRow ?_ (by first | exact LeS.le | exact LeS.add _ | (simp; done) | (simp; omega)) _) | (with_reducible refine Ext.setCell ?_ (by first | exact LeS.le | exact LeS.add _ | (simp; done) | (simp; omega)) _)))), Own.nil _ _ _ _ _, rfl⟩
  case round =>
    obtain ⟨k, rfl, hk, ⟨z, rfl⟩, hown, hall⟩ := hrel
    by_cases hlt : k < t.bs.length
    · obtain ⟨x, hxk⟩ := getElem?_some_of_lt hlt
      obtain ⟨b', off', px, cx, e', hb', f0, f1, f2, f3, f4, f5, hxs⟩ := HC.out k x hxk
      simp only [Option.some.injEq, Addr.mk.injEq, and_true] at e'
      obtain ⟨rfl, rfl⟩ := e'
      obtain ⟨n, hn⟩ := getElem?_some_of_lt (show k < t.pr.length by have := Q3.out; omega)
      obtain ⟨b3, off3, e3, _, hc3⟩ := HP.out k n hn
      simp only [Option.some.injEq, Addr.mk.injEq, and_true] at e3
      obtain ⟨rfl, rfl⟩ := e3
      have g0 : w.cell? ⟨b2, off2 + k, none⟩ = some (.int .i64 n) := by have := hc3 0 _ rfl; simpa using this
      have k0 : (0 : Int) ≤ (k : Int) := by omega
      have k1 : (k : Int) < (t.pr.length : Int) := by have := Q3.out; omega
      have Hxk := Lib.hid hxk; have Hn := Lib.hid hn; have Hxs := Lib.hid hxs; have Hown := Lib.hid hown; have Hall := Lib.hid hall
      have HE : Ext w z.val := (by repeat (first | (with_reducible exact Ext.refl _) | (with_reducible refine Ext.up ?_ _) | (with_reducible refine Ext.alloc ?_ _) | (with_reducible refine Ext.drew ?_) | (with_reducible refine Ext.setRow ?_ (by first | exact LeS.le | exact LeS.add _ | (simp; done) | (simp; omega)) _) | (with_reducible refine Ext.setCell ?_ (by first | exact LeS.le | exact LeS.add _ | (simp; done) | (simp; omega)) _)))
      clear hxk hn hc3 hxs hown hall
      by_cases s0 : bsumOf x < 0
      · have hh := Lib.hid (Tree.ok_n hlt (by rw [newAt_eq Hxk.out, decide_eq_false (show ¬ 0 ≤ bsumOf x by omega)]; rfl))
        go_wp2_with (go_at_call 26; refine (iBS_any x _ _ (Hxs.out.up (by repeat (first | (with_reducible exact Ext.refl _) | (with_reducible refine Ext.up ?_ _) | (with_reducible refine Ext.alloc ?_ _) | (with_reducible refine Ext.drew ?_) | (with_reducible refine Ext.setRow ?_ (by first | exact LeS.le | exact LeS.add _ | (simp; done) | (simp; omega)) _) | (with_reducible refine Ext.setCell ?_ (by first | exact LeS.le | exact LeS.add _ | (simp; done) | (simp; omega)) _))))).mono ?_; rintro e w' ⟨rfl, z1, rfl⟩)
        go_ret
        exact ⟨by rw [hh.out]; rfl, (.of (by repeat (first | (with_reducible exact Ext.refl _) | (with_reducible refine Ext.up ?_ _) | (with_reducible refine Ext.alloc ?_ _) | (with_reducible refine Ext.drew ?_) | (with_reducible refine Ext.setRow ?_ (by first | exact LeS.le | exact LeS.add _ | (simp; done) | (simp; omega)) _) | (with_reducible refine Ext.setCell ?_ (by first | exact LeS.le | exact LeS.add _ | (simp; done) | (simp; omega)) _))))⟩
      have s1 : bsumOf x < 1000003 := by
        rcases ho : x.1.okL x.2 with _ | _
        · have := bsum_no ho; unfold bsumOf; omega
        · exact (bsum_ge ho).2
      have kh := fun w v h => containsI_any (sumsOf (t.bs.take k)) v (bsumOf x) w h
      rcases hs : hasI (sumsOf (t.bs.take k)) (bsumOf x) with _ | _
      · rw [hs] at kh
        have hnew := newAt_eq Hxk.out
        rw [hs, decide_eq_true (show 0 ≤ bsumOf x by omega)] at hnew
        have Hnew := Lib.hid (show newAt t.bs k = true from hnew)
        have hlen2 : (sumsOf (t.bs.take k)).length = k := by rw [sumsOf_length, List.length_take]; omega
        have Hl2 := Lib.hid hlen2
        have Hsn := Lib.hid (sumsOf_snoc Hxk.out)
        have Hs := Lib.hid hs
        clear hnew hlen2 hs
        obtain ⟨p3, c3', rfl, _, _⟩ := (Hown.out.sl encI_length).openc
        by_cases hk0 : k = 0
        · have e0' : ((k : Int) == 0) = true := by rw [hk0]; rfl
          have Hk0 := Lib.hid hk0; clear hk0
          go_wp2_with (first | (go_at_call 26; refine (iBS_any x _ _ (Hxs.out.up (by repeat (first | (with_reducible exact Ext.refl _) | (with_reducible refine Ext.up ?_ _) | (with_reducible refine Ext.alloc ?_ _) | (with_reducible refine Ext.drew ?_) | (with_reducible refine Ext.setRow ?_ (by first | exact LeS.le | exact LeS.add _ | (simp; done) | (simp; omega)) _) | (with_reducible refine Ext.setCell ?_ (by first | exact LeS.le | exact LeS.add _ | (simp; done) | (simp; omega)) _))))).mono ?_; rintro e w' ⟨rfl, z1, rfl⟩) | (go_at_call 63; refine (kh _ _ ((Hown.out.up (by repeat (first | (with_reducible exact Ext.refl _) | (with_reducible refine Ext.up ?_ _) | (with_reducible refine Ext.alloc ?_ _) | (with_reducible refine Ext.drew ?_) | (with_reducible refine Ext.setRow ?_ (by first | exact LeS.le | exact LeS.add _ | (simp; done) | (simp; omega)) _) | (with_reducible refine Ext.setCell ?_ (by first | exact LeS.le | exact LeS.add _ | (simp; done) | (simp; omega)) _)))).sl encI_length)).mono ?_; rintro e w' ⟨rfl, rfl⟩) | (at_builtin; refine wpList_push1 fI rfl (.tmp 63) (.tmp 65) rfl encI zq.val (bsumOf x) (sumsOf (t.bs.take k)) rfl (Hown.out.up (by repeat (first | (with_reducible exact Ext.refl _) | (with_reducible refine Ext.up ?_ _) | (with_reducible refine Ext.alloc ?_ _) | (with_reducible refine Ext.drew ?_) | (with_reducible refine Ext.setRow ?_ (by first | exact LeS.le | exact LeS.add _ | (simp; done) | (simp; omega)) _) | (with_reducible refine Ext.setCell ?_ (by first | exact LeS.le | exact LeS.add _ | (simp; done) | (simp; omega)) _)))) (by repeat (first | (with_reducible exact Ext.refl _) | (with_reducible refine Ext.up ?_ _) | (with_reducible refine Ext.alloc ?_ _) | (with_reducible refine Ext.drew ?_) | (with_reducible refine Ext.setRow ?_ (by first | exact LeS.le | exact LeS.add _ | (simp; done) | (simp; omega)) _) | (with_reducible refine Ext.setCell ?_ (by first | exact LeS.le | exact LeS.add _ | (simp; done) | (simp; omega)) _))) rfl (by go_simp) rfl rfl (oneI _) (by have := Hl2.out; omega) (by have := Hl2.out; omega) ?_; intro v1 z2 hown1))
          have HO := Lib.hid hown1; clear hown1
          go_roundw
          case rel => exact ⟨k + 1, by go_num, by omega, ⟨z2, rfl⟩, by rw [Hsn.out]; exact HO.out, upTo_succ Hall.out (by have h1 := Hk0.out; have h2 := Hnew.out; subst h1; simp [nl, h2, linkAt_zero])⟩
          case measure => simp [intOf]; omega
        · have e0' : ((k : Int) == 0) = false := by simp; omega
          have hkp : 0 < k := by omega
          have ki2 := fun w => in_any n 0 ((k : Int) - 1) w
          rcases qi : inR n 0 ((k : Int) - 1) with _ | _
          · rw [qi] at ki2
            have hh := Lib.hid (Tree.ok_l hlt (linkAt_out Hxk.out Hn.out hkp qi))
            go_wp2_with (first | (go_at_call 26; refine (iBS_any x _ _ (Hxs.out.up (by repeat (first | (with_reducible exact Ext.refl _) | (with_reducible refine Ext.up ?_ _) | (with_reducible refine Ext.alloc ?_ _) | (with_reducible refine Ext.drew ?_) | (with_reducible refine Ext.setRow ?_ (by first | exact LeS.le | exact LeS.add _ | (simp; done) | (simp; omega)) _) | (with_reducible refine Ext.setCell ?_ (by first | exact LeS.le | exact LeS.add _ | (simp; done) | (simp; omega)) _))))).mono ?_; rintro e w' ⟨rfl, z1, rfl⟩) | (go_at_call 63; refine (kh _ _ ((Hown.out.up (by repeat (first | (with_reducible exact Ext.refl _) | (with_reducible refine Ext.up ?_ _) | (with_reducible refine Ext.alloc ?_ _) | (with_reducible refine Ext.drew ?_) | (with_reducible refine Ext.setRow ?_ (by first | exact LeS.le | exact LeS.add _ | (simp; done) | (simp; omega)) _) | (with_reducible refine Ext.setCell ?_ (by first | exact LeS.le | exact LeS.add _ | (simp; done) | (simp; omega)) _)))).sl encI_length)).mono ?_; rintro e w' ⟨rfl, rfl⟩) | (at_builtin; refine wpList_push1 fI rfl (.tmp 63) (.tmp 65) rfl encI zq.val (bsumOf x) (sumsOf (t.bs.take k)) rfl (Hown.out.up (by repeat (first | (with_reducible exact Ext.refl _) | (with_reducible refine Ext.up ?_ _) | (with_reducible refine Ext.alloc ?_ _) | (with_reducible refine Ext.drew ?_) | (with_reducible refine Ext.setRow ?_ (by first | exact LeS.le | exact LeS.add _ | (simp; done) | (simp; omega)) _) | (with_reducible refine Ext.setCell ?_ (by first | exact LeS.le | exact LeS.add _ | (simp; done) | (simp; omega)) _)))) (by repeat (first | (with_reducible exact Ext.refl _) | (with_reducible refine Ext.up ?_ _) | (with_reducible refine Ext.alloc ?_ _) | (with_reducible refine Ext.drew ?_) | (with_reducible refine Ext.setRow ?_ (by first | exact LeS.le | exact LeS.add _ | (simp; done) | (simp; omega)) _) | (with_reducible refine Ext.setCell ?_ (by first | exact LeS.le | exact LeS.add _ | (simp; done) | (simp; omega)) _))) rfl (by go_simp) rfl rfl (oneI _) (by have := Hl2.out; omega) (by have := Hl2.out; omega) ?_; intro v1 z2 hown1))
            clear hown1
            (refine wp_region_up (by kernel_rfl) (by kernel_rfl) ?_; (repeat (go_big_quiet_step ((go_at_call 60; exact Calls.up_same (ki2 _))))); refine wpQuiet_nil ?_; intro _ hw'; obtain ⟨zq, hw''⟩ := hw'; subst hw'')
            go_wp2_with fail
            go_ret
            exact ⟨by rw [hh.out]; rfl, (.of (by repeat (first | (with_reducible exact Ext.refl _) | (with_reducible refine Ext.up ?_ _) | (with_reducible refine Ext.alloc ?_ _) | (with_reducible refine Ext.drew ?_) | (with_reducible refine Ext.setRow ?_ (by first | exact LeS.le | exact LeS.add _ | (simp; done) | (simp; omega)) _) | (with_reducible refine Ext.setCell ?_ (by first | exact LeS.le | exact LeS.add _ | (simp; done) | (simp; omega)) _))))⟩
          · rw [qi] at ki2
            obtain ⟨i0, i1⟩ := inR_iff.1 qi
            obtain ⟨y, hy⟩ := getElem?_some_of_lt (show n.toNat < t.bs.length by omega)
            have hlk := linkAt_eq Hxk.out Hn.out hy hkp
            have hyo := Blk.okL_in (newAt_ok hy (by have := upTo_iff.1 Hall.out n.toNat (by omega); simp only [nl, Bool.and_eq_true] at this; exact this.1))
            obtain ⟨_, _, _, ⟨y0, y1⟩, _⟩ := hyo
            have hsy := Lib.hid (sumsOf_at (k := k) hy (by omega))
            obtain ⟨b4, off4, py, cy, e4, _, r0, r1, r2, r3, r4, r5, _⟩ := HC.out n.toNat y hy
            simp only [Option.some.injEq, Addr.mk.injEq, and_true] at e4
            obtain ⟨rfl, rfl⟩ := e4
            have nl1 : n < (t.bs.length : Int) := by omega
            have nl2 : n < (k : Int) + 1 := by omega
            have Hnk := Lib.hid (show n.toNat < k by omega)
            have Hnb := Lib.hid (fun e => by have := (World.ownsRow.lt Hown.out z.val.heap.size (by first | exact e | exact e.symm)).2; omega : some z.val.heap.size ≠ (Value.slice p3 (sumsOf (t.bs.take k)).length c3').ownBlock)
            have Hlk := Lib.hid hlk; have Hy := Lib.hid hy; have Qi := Lib.hid qi
            clear hlk hy qi hk0 i1
            go_wp2_with (first | (go_at_call 26; refine (iBS_any x _ _ (Hxs.out.up (by repeat (first | (with_reducible exact Ext.refl _) | (with_reducible refine Ext.up ?_ _) | (with_reducible refine Ext.alloc ?_ _) | (with_reducible refine Ext.drew ?_) | (with_reducible refine Ext.setRow ?_ (by first | exact LeS.le | exact LeS.add _ | (simp; done) | (simp; omega)) _) | (with_reducible refine Ext.setCell ?_ (by first | exact LeS.le | exact LeS.add _ | (simp; done) | (simp; omega)) _))))).mono ?_; rintro e w' ⟨rfl, z1, rfl⟩) | (go_at_call 63; refine (kh _ _ ((Hown.out.up (by repeat (first | (with_reducible exact Ext.refl _) | (with_reducible refine Ext.up ?_ _) | (with_reducible refine Ext.alloc ?_ _) | (with_reducible refine Ext.drew ?_) | (with_reducible refine Ext.setRow ?_ (by first | exact LeS.le | exact LeS.add _ | (simp; done) | (simp; omega)) _) | (with_reducible refine Ext.setCell ?_ (by first | exact LeS.le | exact LeS.add _ | (simp; done) | (simp; omega)) _)))).sl encI_length)).mono ?_; rintro e w' ⟨rfl, rfl⟩) | (at_builtin; refine wpList_pushG fI rfl (.tmp 63) (.tmp 65) rfl encI encI_length zq.val [bsumOf x] (sumsOf (t.bs.take k)) rfl (Hown.out.up (by repeat (first | (with_reducible exact Ext.refl _) | (with_reducible refine Ext.up ?_ _) | (with_reducible refine Ext.alloc ?_ _) | (with_reducible refine Ext.drew ?_) | (with_reducible refine Ext.setRow ?_ (by first | exact LeS.le | exact LeS.add _ | (simp; done) | (simp; omega)) _) | (with_reducible refine Ext.setCell ?_ (by first | exact LeS.le | exact LeS.add _ | (simp; done) | (simp; omega)) _)))) (by repeat (first | (with_reducible exact Ext.refl _) | (with_reducible refine Ext.up ?_ _) | (with_reducible refine Ext.alloc ?_ _) | (with_reducible refine Ext.drew ?_) | (with_reducible refine Ext.setRow ?_ (by first | exact LeS.le | exact LeS.add _ | (simp; done) | (simp; omega)) _) | (with_reducible refine Ext.setCell ?_ (by first | exact LeS.le | exact LeS.add _ | (simp; done) | (simp; omega)) _))) (Nat.le_refl _) LeS.le rfl (by rfl) (by go_simp) rfl (oneIs _) (by have := Hl2.out; simp; omega) (by have := Hl2.out; simp; omega) ?_; intro v1 z2 hown1 hgr _; have hgb := hgr.block z.val.heap.size LtS.lt (Hnb.out); have cx0 : z2.val.cell? ⟨z.val.heap.size, 0, none⟩ = some (.int .i64 x.1.bf) := (cell_of_block hgb 0).trans (by go_simp); have cx1 : z2.val.cell? ⟨z.val.heap.size, 1, none⟩ = some (.int .i64 x.1.ht) := (cell_of_block hgb 1).trans (by go_simp); have cx2 : z2.val.cell? ⟨z.val.heap.size, 2, none⟩ = some (.int .i64 x.1.vw) := (cell_of_block hgb 2).trans (by go_simp); clear hgr hgb))
            have HO := Lib.hid hown1
            have hsl := (hown1.sl encI_length)
            rw [← Hsn.out] at hsl
            obtain ⟨p4, c4, hv4, _, hc4⟩ := hsl.open
            rw [sumsOf_length, List.length_take, Nat.min_eq_left (by omega)] at hv4
            subst hv4
            have hg4 : (sumsOf (t.bs.take (k + 1)))[n.toNat]? = some (bsumOf y) := by
              rw [Hsn.out, List.getElem?_append_left (by have := Hl2.out; have := Hnk.out; omega)]; exact hsy.out
            obtain ⟨g4, o4, hp4, hL4, hcc4⟩ := hc4 n.toNat _ hg4
            subst hp4
            have u0 : z2.val.cell? ⟨g4, o4 + n.toNat, none⟩ = some (.int .i64 (bsumOf y)) := by have := hcc4 0 _ rfl; simpa using this
            clear hown1 hsl hc4 hcc4 hg4
            have hLx : LtS z.val.heap.size z2.val := LtS.of_some cx0
            rcases ne_cases x.1.bf (bsumOf y) with ⟨w1, w1'⟩ | ⟨w1, w1'⟩
            · have hh := Lib.hid (Tree.ok_l hlt (by rw [Hlk.out, decide_eq_false (show ¬ bsumOf y = x.1.bf from fun e => w1 e.symm)]; simp))
              have W1 := Lib.hid w1; clear w1
              (refine wp_region_up (by kernel_rfl) (by kernel_rfl) ?_; (repeat (go_big_quiet_step ((go_at_call 60; exact Calls.up_same (ki2 _))))); refine wpQuiet_nil ?_; intro _ hw'; obtain ⟨zq, hw''⟩ := hw'; subst hw'')
              go_wp2_with fail
              go_ret
              exact ⟨by rw [hh.out]; rfl, (.of (by repeat (first | (with_reducible exact Ext.refl _) | (with_reducible refine Ext.up ?_ _) | (with_reducible refine Ext.alloc ?_ _) | (with_reducible refine Ext.drew ?_) | (with_reducible refine Ext.setRow ?_ (by first | exact LeS.le | exact LeS.add _ | (simp; done) | (simp; omega)) _) | (with_reducible refine Ext.setCell ?_ (by first | exact LeS.le | exact LeS.add _ | (simp; done) | (simp; omega)) _))))⟩
            have W1 := Lib.hid w1; clear w1
            rcases ne_cases x.1.ht (y.1.ht + 1) with ⟨w2, w2'⟩ | ⟨w2, w2'⟩
            · have hh := Lib.hid (Tree.ok_l hlt (by rw [Hlk.out, decide_eq_false (show ¬ y.1.ht + 1 = x.1.ht from fun e => w2 e.symm)]; simp))
              have W2 := Lib.hid w2; clear w2
              (refine wp_region_up (by kernel_rfl) (by kernel_rfl) ?_; (repeat (go_big_quiet_step ((go_at_call 60; exact Calls.up_same (ki2 _))))); refine wpQuiet_nil ?_; intro _ hw'; obtain ⟨zq, hw''⟩ := hw'; subst hw'')
              go_wp2_with fail
              go_ret
              exact ⟨by rw [hh.out]; rfl, (.of (by repeat (first | (with_reducible exact Ext.refl _) | (with_reducible refine Ext.up ?_ _) | (with_reducible refine Ext.alloc ?_ _) | (with_reducible refine Ext.drew ?_) | (with_reducible refine Ext.setRow ?_ (by first | exact LeS.le | exact LeS.add _ | (simp; done) | (simp; omega)) _) | (with_reducible refine Ext.setCell ?_ (by first | exact LeS.le | exact LeS.add _ | (simp; done) | (simp; omega)) _))))⟩
            have W2 := Lib.hid w2; clear w2
            by_cases w3 : x.1.vw ≤ y.1.vw
            · have hh := Lib.hid (Tree.ok_l hlt (by rw [Hlk.out, decide_eq_false (show ¬ y.1.vw < x.1.vw by omega)]; simp))
              (refine wp_region_up (by kernel_rfl) (by kernel_rfl) ?_; (repeat (go_big_quiet_step ((go_at_call 60; exact Calls.up_same (ki2 _))))); refine wpQuiet_nil ?_; intro _ hw'; obtain ⟨zq, hw''⟩ := hw'; subst hw'')
              go_wp2_with fail
              go_ret
              exact ⟨by rw [hh.out]; rfl, (.of (by repeat (first | (with_reducible exact Ext.refl _) | (with_reducible refine Ext.up ?_ _) | (with_reducible refine Ext.alloc ?_ _) | (with_reducible refine Ext.drew ?_) | (with_reducible refine Ext.setRow ?_ (by first | exact LeS.le | exact LeS.add _ | (simp; done) | (simp; omega)) _) | (with_reducible refine Ext.setCell ?_ (by first | exact LeS.le | exact LeS.add _ | (simp; done) | (simp; omega)) _))))⟩
            have hh := Lib.hid (show linkAt t.bs t.pr k = true by rw [Hlk.out, Qi.out, decide_eq_true W1.out.symm, decide_eq_true W2.out.symm, decide_eq_true (show y.1.vw < x.1.vw by omega)]; rfl)
            (refine wp_region_up (by kernel_rfl) (by kernel_rfl) ?_; (repeat (go_big_quiet_step ((go_at_call 60; exact Calls.up_same (ki2 _))))); refine wpQuiet_nil ?_; intro _ hw'; obtain ⟨zq, hw''⟩ := hw'; subst hw'')
            go_wp2_with fail
            go_roundw
            case rel => exact ⟨k + 1, by go_num, by omega, (.of (by repeat (first | (with_reducible exact Ext.refl _) | (with_reducible refine Ext.up ?_ _) | (with_reducible refine Ext.alloc ?_ _) | (with_reducible refine Ext.drew ?_) | (with_reducible refine Ext.setRow ?_ (by first | exact LeS.le | exact LeS.add _ | (simp; done) | (simp; omega)) _) | (with_reducible refine Ext.setCell ?_ (by first | exact LeS.le | exact LeS.add _ | (simp; done) | (simp; omega)) _)))), by rw [Hsn.out]; have h4 := Own.up HO.out (w' := zq.val) (by repeat (first | (with_reducible exact Ext.refl _) | (with_reducible refine Ext.up ?_ _) | (with_reducible refine Ext.alloc ?_ _) | (with_reducible refine Ext.drew ?_) | (with_reducible refine Ext.setRow ?_ (by first | exact LeS.le | exact LeS.add _ | (simp; done) | (simp; omega)) _) | (with_reducible refine Ext.setCell ?_ (by first | exact LeS.le | exact LeS.add _ | (simp; done) | (simp; omega)) _))); simpa [sumsOf_length, List.length_take, Nat.min_eq_left (show k ≤ t.bs.length by omega)] using h4, upTo_succ Hall.out (by simp [nl, Hnew.out, hh.out])⟩
            case measure => simp [intOf]; omega
      · rw [hs] at kh
        have hh := Lib.hid (Tree.ok_n hlt (by rw [newAt_eq Hxk.out, hs]; simp))
        obtain ⟨p3, c3', rfl, _, _⟩ := (Hown.out.sl encI_length).openc
        go_wp2_with (first | (go_at_call 26; refine (iBS_any x _ _ (Hxs.out.up (by repeat (first | (with_reducible exact Ext.refl _) | (with_reducible refine Ext.up ?_ _) | (with_reducible refine Ext.alloc ?_ _) | (with_reducible refine Ext.drew ?_) | (with_reducible refine Ext.setRow ?_ (by first | exact LeS.le | exact LeS.add _ | (simp; done) | (simp; omega)) _) | (with_reducible refine Ext.setCell ?_ (by first | exact LeS.le | exact LeS.add _ | (simp; done) | (simp; omega)) _))))).mono ?_; rintro e w' ⟨rfl, z1, rfl⟩) | (go_at_call 63; refine (kh _ _ ((Hown.out.up (by repeat (first | (with_reducible exact Ext.refl _) | (with_reducible refine Ext.up ?_ _) | (with_reducible refine Ext.alloc ?_ _) | (with_reducible refine Ext.drew ?_) | (with_reducible refine Ext.setRow ?_ (by first | exact LeS.le | exact LeS.add _ | (simp; done) | (simp; omega)) _) | (with_reducible refine Ext.setCell ?_ (by first | exact LeS.le | exact LeS.add _ | (simp; done) | (simp; omega)) _)))).sl encI_length)).mono ?_; rintro e w' ⟨rfl, rfl⟩))
        go_ret
        exact ⟨by rw [hh.out]; rfl, (.of (by repeat (first | (with_reducible exact Ext.refl _) | (with_reducible refine Ext.up ?_ _) | (with_reducible refine Ext.alloc ?_ _) | (with_reducible refine Ext.drew ?_) | (with_reducible refine Ext.setRow ?_ (by first | exact LeS.le | exact LeS.add _ | (simp; done) | (simp; omega)) _) | (with_reducible refine Ext.setCell ?_ (by first | exact LeS.le | exact LeS.add _ | (simp; done) | (simp; omega)) _))))⟩
    · go_wp2_with fail
      go_ret
      obtain rfl : k = t.bs.length := by omega
      have hn := upTo_and (f := newAt t.bs) (g := linkAt t.bs t.pr) t.bs.length
      have hall' : upTo (fun i => newAt t.bs i && linkAt t.bs t.pr i) t.bs.length = true := hall
      rw [hall'] at hn
      have hn' := hn.symm
      rw [Bool.and_eq_true] at hn'
      refine ⟨?_, (.of (by repeat (first | (with_reducible exact Ext.refl _) | (with_reducible refine Ext.up ?_ _) | (with_reducible refine Ext.alloc ?_ _) | (with_reducible refine Ext.drew ?_) | (with_reducible refine Ext.setRow ?_ (by first | exact LeS.le | exact LeS.add _ | (simp; done) | (simp; omega)) _) | (with_reducible refine Ext.setCell ?_ (by first | exact LeS.le | exact LeS.add _ | (simp; done) | (simp; omega)) _))))⟩
      rw [Tree.ok_y Hhead.out Hfirst.out hn'.1 hn'.2]; rfl
end Go.Proofs.Yteiemjebdhmnaaa
