/- Walks: the law FnFindBlock. -/
import Derived.Test.YteiemjebdhmnaaaGSoTop36
import Derived.Test.YteiemjebdhmnaaaGSoTop18
import Derived.Test.YteiemjebdhmnaaaGSoTop20
import Derived.Test.YteiemjebdhmnaaaGSoTop17
import Derived.Test.YteiemjebdhmnaaaGSoTop15
set_option linter.unusedSimpArgs false
set_option linter.unusedVariables false
namespace Go.Proofs.Yteiemjebdhmnaaa
open Go Go.RowKit Go.Proofs

set_option maxRecDepth 100000 in
set_option maxHeartbeats 4000000 in
theorem FnFindBlock_any (bs : List Int) (v : Value) (w : World) (h : SL (RF encU) 1 w v bs) (hb : ∀ b ∈ bs, 0 ≤ b ∧ b ≤ 255) :
    Calls Try.prog 6 #[v] w fun e w' => e = .returned (.bool true) ∧ Up w w' := by
  have H := Lib.hid h
  obtain ⟨p, c, rfl, _, _⟩ := h.openc
  clear h
  by_cases hl : 1048576 < bs.length
  · go_enter Try.func6, Try.ntmps6
    go_wp2_with fail
    go_ret
    exact ⟨rfl, (.of (by repeat (first | (with_reducible exact Ext.refl _) | (with_reducible refine Ext.up ?_ _) | (with_reducible refine Ext.alloc ?_ _) | (with_reducible refine Ext.drew ?_) | (with_reducible refine Ext.setRow ?_ (by first | exact LeS.le | exact LeS.add _ | (simp; done) | (simp; omega)) _) | (with_reducible refine Ext.setCell ?_ (by first | exact LeS.le | exact LeS.add _ | (simp; done) | (simp; omega)) _))))⟩
  go_enter Try.func6, Try.ntmps6
  go_wp2_with fail
  refine (drawFindBlock_any bs _ _ (H.out.up (by repeat (first | (with_reducible exact Ext.refl _) | (with_reducible refine Ext.up ?_ _) | (with_reducible refine Ext.alloc ?_ _) | (with_reducible refine Ext.drew ?_) | (with_reducible refine Ext.setRow ?_ (by first | exact LeS.le | exact LeS.add _ | (simp; done) | (simp; omega)) _) | (with_reducible refine Ext.setCell ?_ (by first | exact LeS.le | exact LeS.add _ | (simp; done) | (simp; omega)) _)))) hb).mono ?_; rintro e w' ⟨v0, v1, v2, t, sum, rfl, ⟨z0, rfl⟩, hs⟩
  obtain ⟨p0, c0, rfl, _, _⟩ := hs.base.openc
  obtain ⟨p1, c1, rfl, hlb, hcb, hc1⟩ := hs.bs.open
  obtain ⟨p2, c2, rfl, hlp, _⟩ := hs.pr.openc
  have HS := Lib.hid hs
  clear hs
  have ki := fun w h => iFindBlock_any t (.slice p0 t.base.length c0) (.slice p1 t.bs.length c1) (.slice p2 t.pr.length c2) sum w h
  have ks := fun w h => sFindBlock_any t (.slice p0 t.base.length c0) (.slice p1 t.bs.length c1) (.slice p2 t.pr.length c2) sum w h
  have kv := fun w h => sTreeValid_any t (.slice p0 t.base.length c0) (.slice p1 t.bs.length c1) (.slice p2 t.pr.length c2) w h
  rcases hok : t.ok with _ | _
  · have hr : findR t sum = -1 := by unfold findR; simp [hok]
    simp only [hr] at ki ks
    simp only [hok] at kv
    clear hok hr hc1
    go_wp2_with (first | (go_at_call 24; refine (ki _ (HS.out.up (by repeat (first | (with_reducible exact Ext.refl _) | (with_reducible refine Ext.up ?_ _) | (with_reducible refine Ext.alloc ?_ _) | (with_reducible refine Ext.drew ?_) | (with_reducible refine Ext.setRow ?_ (by first | exact LeS.le | exact LeS.add _ | (simp; done) | (simp; omega)) _) | (with_reducible refine Ext.setCell ?_ (by first | exact LeS.le | exact LeS.add _ | (simp; done) | (simp; omega)) _))))).mono ?_; rintro e w' ⟨rfl, z1, rfl⟩) | (go_at_call 25; refine (ks _ (HS.out.up (by repeat (first | (with_reducible exact Ext.refl _) | (with_reducible refine Ext.up ?_ _) | (with_reducible refine Ext.alloc ?_ _) | (with_reducible refine Ext.drew ?_) | (with_reducible refine Ext.setRow ?_ (by first | exact LeS.le | exact LeS.add _ | (simp; done) | (simp; omega)) _) | (with_reducible refine Ext.setCell ?_ (by first | exact LeS.le | exact LeS.add _ | (simp; done) | (simp; omega)) _))))).mono ?_; rintro e w' ⟨rfl, z2, rfl⟩) | (go_at_call 11; refine (kv _ (HS.out.up (by repeat (first | (with_reducible exact Ext.refl _) | (with_reducible refine Ext.up ?_ _) | (with_reducible refine Ext.alloc ?_ _) | (with_reducible refine Ext.drew ?_) | (with_reducible refine Ext.setRow ?_ (by first | exact LeS.le | exact LeS.add _ | (simp; done) | (simp; omega)) _) | (with_reducible refine Ext.setCell ?_ (by first | exact LeS.le | exact LeS.add _ | (simp; done) | (simp; omega)) _))))).mono ?_; rintro e w' ⟨rfl, z3, rfl⟩) | (go_at_call 12; refine (alive_any _).mono ?_; rintro e w' ⟨rfl, z4, rfl⟩))
    go_ret
    exact ⟨rfl, (.of (by repeat (first | (with_reducible exact Ext.refl _) | (with_reducible refine Ext.up ?_ _) | (with_reducible refine Ext.alloc ?_ _) | (with_reducible refine Ext.drew ?_) | (with_reducible refine Ext.setRow ?_ (by first | exact LeS.le | exact LeS.add _ | (simp; done) | (simp; omega)) _) | (with_reducible refine Ext.setCell ?_ (by first | exact LeS.le | exact LeS.add _ | (simp; done) | (simp; omega)) _))))⟩
  have hfs : ∀ (k : Nat) (x : BL), t.bs[k]? = some x → findR t (bsumOf x) = k := fun k x hx => by
    unfold findR; simp only [hok, if_true]
    first | exact findB_self hok hx | simpa using findB_self hok hx
  have hfr : findR t sum = -1 ∨ ∃ (n : Nat) (x : BL), findR t sum = n ∧ t.bs[n]? = some x ∧ bsumOf x = sum := by
    by_cases h0 : 0 ≤ findB t.bs sum
    · obtain ⟨x, hx, hsx⟩ := findB_some h0
      exact .inr ⟨(findB t.bs sum).toNat, x, by unfold findR; simp only [hok, if_true]; omega, hx, hsx⟩
    · have := (findB_ge t.bs sum).1
      exact .inl (by unfold findR; simp only [hok, if_true]; omega)
  simp only [hok] at kv
  have HFS := Lib.hid hfs
  have HC1 := Lib.hid hc1
  clear hok hfs hc1
  generalize findR t sum = fr at *
  rcases hfr with rfl | ⟨n, x, rfl, hx, hsx⟩
  · skip
    go_wp2_with (first | (go_at_call 24; refine (ki _ (HS.out.up (by repeat (first | (with_reducible exact Ext.refl _) | (with_reducible refine Ext.up ?_ _) | (with_reducible refine Ext.alloc ?_ _) | (with_reducible refine Ext.drew ?_) | (with_reducible refine Ext.setRow ?_ (by first | exact LeS.le | exact LeS.add _ | (simp; done) | (simp; omega)) _) | (with_reducible refine Ext.setCell ?_ (by first | exact LeS.le | exact LeS.add _ | (simp; done) | (simp; omega)) _))))).mono ?_; rintro e w' ⟨rfl, z1, rfl⟩) | (go_at_call 25; refine (ks _ (HS.out.up (by repeat (first | (with_reducible exact Ext.refl _) | (with_reducible refine Ext.up ?_ _) | (with_reducible refine Ext.alloc ?_ _) | (with_reducible refine Ext.drew ?_) | (with_reducible refine Ext.setRow ?_ (by first | exact LeS.le | exact LeS.add _ | (simp; done) | (simp; omega)) _) | (with_reducible refine Ext.setCell ?_ (by first | exact LeS.le | exact LeS.add _ | (simp; done) | (simp; omega)) _))))).mono ?_; rintro e w' ⟨rfl, z2, rfl⟩) | (go_at_call 11; refine (kv _ (HS.out.up (by repeat (first | (with_reducible exact Ext.refl _) | (with_reducible refine Ext.up ?_ _) | (with_reducible refine Ext.alloc ?_ _) | (with_reducible refine Ext.drew ?_) | (with_reducible refine Ext.setRow ?_ (by first | exact LeS.le | exact LeS.add _ | (simp; done) | (simp; omega)) _) | (with_reducible refine Ext.setCell ?_ (by first | exact LeS.le | exact LeS.add _ | (simp; done) | (simp; omega)) _))))).mono ?_; rintro e w' ⟨rfl, z3, rfl⟩))
    clear ki ks kv
    go_loopw [6] (fun s6 wr => ∃ (k : Nat), s6 = .int .i64 k ∧ k ≤ t.bs.length ∧ Up z3.val wr) (fun s6 _ => t.bs.length - (intOf s6).toNat)
    case atStart => exact ⟨0, rfl, Nat.zero_le _, (.of (by repeat (first | (with_reducible exact Ext.refl _) | (with_reducible refine Ext.up ?_ _) | (with_reducible refine Ext.alloc ?_ _) | (with_reducible refine Ext.drew ?_) | (with_reducible refine Ext.setRow ?_ (by first | exact LeS.le | exact LeS.add _ | (simp; done) | (simp; omega)) _) | (with_reducible refine Ext.setCell ?_ (by first | exact LeS.le | exact LeS.add _ | (simp; done) | (simp; omega)) _))))⟩
    case round =>
      obtain ⟨k, rfl, hk, ⟨z, rfl⟩⟩ := hrel
      by_cases hlt : k < t.bs.length
      · obtain ⟨y, hyk⟩ := getElem?_some_of_lt hlt
        obtain ⟨b, off, q, d, e, hb, a0, a1, a2, a3, a4, a5, hys⟩ := HC1.out k y hyk
        subst e
        have HY := Lib.hid hys
        have kb := fun w h => iBlockSum_any y.1 y.2 (.slice q y.2.length d) w h
        have kf := fun w h => iFindBlock_any t (.slice p0 t.base.length c0) (.slice (some ⟨b, off, none⟩) t.bs.length c1) (.slice p2 t.pr.length c2) (bsum y.1 y.2) w h
        have e := HFS.out k y hyk
        change findR t (bsum y.1 y.2) = k at e
        simp only [e] at kf
        generalize bsum y.1 y.2 = sy at kb kf e
        have k0 : (0 : Int) ≤ (k : Int) := by omega
        have k1 : (k : Int) < t.bs.length := by omega
        clear hyk hys e
        go_wp2_with fail
        (refine wp_region_up (by kernel_rfl) (by kernel_rfl) ?_; (repeat (go_big_quiet_step (first | (go_at_call 26; exact Calls.up (kb _ (HY.out.up (by repeat (first | (with_reducible exact Ext.refl _) | (with_reducible refine Ext.up ?_ _) | (with_reducible refine Ext.alloc ?_ _) | (with_reducible refine Ext.drew ?_) | (with_reducible refine Ext.setRow ?_ (by first | exact LeS.le | exact LeS.add _ | (simp; done) | (simp; omega)) _) | (with_reducible refine Ext.setCell ?_ (by first | exact LeS.le | exact LeS.add _ | (simp; done) | (simp; omega)) _)))))) | (go_at_call 24; exact Calls.up (kf _ (HS.out.up (by repeat (first | (with_reducible exact Ext.refl _) | (with_reducible refine Ext.up ?_ _) | (with_reducible refine Ext.alloc ?_ _) | (with_reducible refine Ext.drew ?_) | (with_reducible refine Ext.setRow ?_ (by first | exact LeS.le | exact LeS.add _ | (simp; done) | (simp; omega)) _) | (with_reducible refine Ext.setCell ?_ (by first | exact LeS.le | exact LeS.add _ | (simp; done) | (simp; omega)) _))))))))); refine wpQuiet_nil ?_; intro _ hw'; obtain ⟨zq, hw''⟩ := hw'; subst hw'')
        go_wp2_with fail
        go_roundw
        case rel => exact ⟨k + 1, by go_num, by omega, (.of (by repeat (first | (with_reducible exact Ext.refl _) | (with_reducible refine Ext.up ?_ _) | (with_reducible refine Ext.alloc ?_ _) | (with_reducible refine Ext.drew ?_) | (with_reducible refine Ext.setRow ?_ (by first | exact LeS.le | exact LeS.add _ | (simp; done) | (simp; omega)) _) | (with_reducible refine Ext.setCell ?_ (by first | exact LeS.le | exact LeS.add _ | (simp; done) | (simp; omega)) _))))⟩
        case measure => simp [intOf]; omega
      · obtain rfl : k = t.bs.length := by omega
        go_wp2_with fail
        go_ret
        exact ⟨rfl, (.of (by repeat (first | (with_reducible exact Ext.refl _) | (with_reducible refine Ext.up ?_ _) | (with_reducible refine Ext.alloc ?_ _) | (with_reducible refine Ext.drew ?_) | (with_reducible refine Ext.setRow ?_ (by first | exact LeS.le | exact LeS.add _ | (simp; done) | (simp; omega)) _) | (with_reducible refine Ext.setCell ?_ (by first | exact LeS.le | exact LeS.add _ | (simp; done) | (simp; omega)) _))))⟩
  · have hnl := (List.getElem?_eq_some_iff.1 hx).1
    obtain ⟨b', off', q', d', e', hb', e0, e1, e2, e3, e4, e5, hxs⟩ := HC1.out n x hx
    subst e'
    have HX := Lib.hid hxs
    have kx := fun w h => iBlockSum_any x.1 x.2 (.slice q' x.2.length d') w h
    have hsx' : bsum x.1 x.2 = sum := hsx
    simp only [hsx'] at kx
    have n0 : (0 : Int) ≤ (n : Int) := by omega
    have n1 : (n : Int) < t.bs.length := by omega
    have n2 : ((n : Int) == -1) = false := beq_eq_false_iff_ne.2 (by omega)
    have n3 : decide (n < t.bs.length) = true := by simpa using hnl
    clear hx hsx hsx' hxs
    go_wp2_with (first | (go_at_call 24; refine (ki _ (HS.out.up (by repeat (first | (with_reducible exact Ext.refl _) | (with_reducible refine Ext.up ?_ _) | (with_reducible refine Ext.alloc ?_ _) | (with_reducible refine Ext.drew ?_) | (with_reducible refine Ext.setRow ?_ (by first | exact LeS.le | exact LeS.add _ | (simp; done) | (simp; omega)) _) | (with_reducible refine Ext.setCell ?_ (by first | exact LeS.le | exact LeS.add _ | (simp; done) | (simp; omega)) _))))).mono ?_; rintro e w' ⟨rfl, z1, rfl⟩) | (go_at_call 25; refine (ks _ (HS.out.up (by repeat (first | (with_reducible exact Ext.refl _) | (with_reducible refine Ext.up ?_ _) | (with_reducible refine Ext.alloc ?_ _) | (with_reducible refine Ext.drew ?_) | (with_reducible refine Ext.setRow ?_ (by first | exact LeS.le | exact LeS.add _ | (simp; done) | (simp; omega)) _) | (with_reducible refine Ext.setCell ?_ (by first | exact LeS.le | exact LeS.add _ | (simp; done) | (simp; omega)) _))))).mono ?_; rintro e w' ⟨rfl, z2, rfl⟩) | (go_at_call 11; refine (kv _ (HS.out.up (by repeat (first | (with_reducible exact Ext.refl _) | (with_reducible refine Ext.up ?_ _) | (with_reducible refine Ext.alloc ?_ _) | (with_reducible refine Ext.drew ?_) | (with_reducible refine Ext.setRow ?_ (by first | exact LeS.le | exact LeS.add _ | (simp; done) | (simp; omega)) _) | (with_reducible refine Ext.setCell ?_ (by first | exact LeS.le | exact LeS.add _ | (simp; done) | (simp; omega)) _))))).mono ?_; rintro e w' ⟨rfl, z3, rfl⟩))
    clear ki ks kv
    go_loopw [6] (fun s6 wr => ∃ (k : Nat), s6 = .int .i64 k ∧ k ≤ t.bs.length ∧ Up z3.val wr) (fun s6 _ => t.bs.length - (intOf s6).toNat)
    case atStart => exact ⟨0, rfl, Nat.zero_le _, (.of (by repeat (first | (with_reducible exact Ext.refl _) | (with_reducible refine Ext.up ?_ _) | (with_reducible refine Ext.alloc ?_ _) | (with_reducible refine Ext.drew ?_) | (with_reducible refine Ext.setRow ?_ (by first | exact LeS.le | exact LeS.add _ | (simp; done) | (simp; omega)) _) | (with_reducible refine Ext.setCell ?_ (by first | exact LeS.le | exact LeS.add _ | (simp; done) | (simp; omega)) _))))⟩
    case round =>
      obtain ⟨k, rfl, hk, ⟨z, rfl⟩⟩ := hrel
      by_cases hlt : k < t.bs.length
      · obtain ⟨y, hyk⟩ := getElem?_some_of_lt hlt
        obtain ⟨b, off, q, d, e, hb, a0, a1, a2, a3, a4, a5, hys⟩ := HC1.out k y hyk
        cases e
        have HY := Lib.hid hys
        have kb := fun w h => iBlockSum_any y.1 y.2 (.slice q y.2.length d) w h
        have kf := fun w h => iFindBlock_any t (.slice p0 t.base.length c0) (.slice (some ⟨b', off', none⟩) t.bs.length c1) (.slice p2 t.pr.length c2) (bsum y.1 y.2) w h
        have e := HFS.out k y hyk
        change findR t (bsum y.1 y.2) = k at e
        simp only [e] at kf
        generalize bsum y.1 y.2 = sy at kb kf e
        have k0 : (0 : Int) ≤ (k : Int) := by omega
        have k1 : (k : Int) < t.bs.length := by omega
        clear hyk hys e
        go_wp2_with fail
        (refine wp_region_up (by kernel_rfl) (by kernel_rfl) ?_; (repeat (go_big_quiet_step (first | (go_at_call 26; exact Calls.up (kb _ (HY.out.up (by repeat (first | (with_reducible exact Ext.refl _) | (with_reducible refine Ext.up ?_ _) | (with_reducible refine Ext.alloc ?_ _) | (with_reducible refine Ext.drew ?_) | (with_reducible refine Ext.setRow ?_ (by first | exact LeS.le | exact LeS.add _ | (simp; done) | (simp; omega)) _) | (with_reducible refine Ext.setCell ?_ (by first | exact LeS.le | exact LeS.add _ | (simp; done) | (simp; omega)) _)))))) | (go_at_call 24; exact Calls.up (kf _ (HS.out.up (by repeat (first | (with_reducible exact Ext.refl _) | (with_reducible refine Ext.up ?_ _) | (with_reducible refine Ext.alloc ?_ _) | (with_reducible refine Ext.drew ?_) | (with_reducible refine Ext.setRow ?_ (by first | exact LeS.le | exact LeS.add _ | (simp; done) | (simp; omega)) _) | (with_reducible refine Ext.setCell ?_ (by first | exact LeS.le | exact LeS.add _ | (simp; done) | (simp; omega)) _))))))))); refine wpQuiet_nil ?_; intro _ hw'; obtain ⟨zq, hw''⟩ := hw'; subst hw'')
        go_wp2_with fail
        go_roundw
        case rel => exact ⟨k + 1, by go_num, by omega, (.of (by repeat (first | (with_reducible exact Ext.refl _) | (with_reducible refine Ext.up ?_ _) | (with_reducible refine Ext.alloc ?_ _) | (with_reducible refine Ext.drew ?_) | (with_reducible refine Ext.setRow ?_ (by first | exact LeS.le | exact LeS.add _ | (simp; done) | (simp; omega)) _) | (with_reducible refine Ext.setCell ?_ (by first | exact LeS.le | exact LeS.add _ | (simp; done) | (simp; omega)) _))))⟩
        case measure => simp [intOf]; omega
      · obtain rfl : k = t.bs.length := by omega
        go_wp2_with (go_at_call 26; refine (kx _ (HX.out.up (by repeat (first | (with_reducible exact Ext.refl _) | (with_reducible refine Ext.up ?_ _) | (with_reducible refine Ext.alloc ?_ _) | (with_reducible refine Ext.drew ?_) | (with_reducible refine Ext.setRow ?_ (by first | exact LeS.le | exact LeS.add _ | (simp; done) | (simp; omega)) _) | (with_reducible refine Ext.setCell ?_ (by first | exact LeS.le | exact LeS.add _ | (simp; done) | (simp; omega)) _))))).mono ?_; rintro e w' ⟨rfl, z4, rfl⟩)
        go_ret
        exact ⟨rfl, (.of (by repeat (first | (with_reducible exact Ext.refl _) | (with_reducible refine Ext.up ?_ _) | (with_reducible refine Ext.alloc ?_ _) | (with_reducible refine Ext.drew ?_) | (with_reducible refine Ext.setRow ?_ (by first | exact LeS.le | exact LeS.add _ | (simp; done) | (simp; omega)) _) | (with_reducible refine Ext.setCell ?_ (by first | exact LeS.le | exact LeS.add _ | (simp; done) | (simp; omega)) _))))⟩
end Go.Proofs.Yteiemjebdhmnaaa
