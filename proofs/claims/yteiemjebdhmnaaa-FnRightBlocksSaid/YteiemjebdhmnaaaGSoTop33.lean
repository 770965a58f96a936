/- Walks: the law FnRightBlocks. -/
import Derived.Test.YteiemjebdhmnaaaGSoTop26
import Derived.Test.YteiemjebdhmnaaaGSoTop31
set_option linter.unusedSimpArgs false
set_option linter.unusedVariables false
namespace Go.Proofs.Yteiemjebdhmnaaa
open Go Go.RowKit Go.Proofs

theorem right_blk {t : Tree} (h : t.ok = true) {n : Nat} {y : BL} (hy : t.bs[n]? = some y) (hr : (rightsR t)[n]? = some true) : blkRight y.1 y.2 (frontS t n) = true ∧ (n ≠ 0 → (rightsR t).getD (prAt t n).toNat false = true) := by
  rw [right_one h hy] at hr
  have hr := Option.some.inj hr
  rw [Bool.and_eq_true, Bool.or_eq_true, decide_eq_true_eq] at hr
  exact ⟨hr.1, fun h0 => hr.2.resolve_left h0⟩
theorem rightsR_len {t : Tree} (h : t.ok = true) : (rightsR t).length = t.bs.length := by rw [rightsR_yes h, rightsTo_len]
theorem right_before {t : Tree} (h : t.ok = true) {n m : Nat} {y : BL} (hy : t.bs[n]? = some y) (hr : (rightsR t)[n]? = some true) (h0 : n ≠ 0) (hpa : prAt t n = (m : Int)) (hm : m < n) : blkRight y.1 y.2 (storeR t (m : Int)) = true ∧ (rightsR t)[m]? = some true := by
  obtain ⟨h1, h2⟩ := right_blk h hy hr
  have h2 := h2 h0
  have hn := (List.getElem?_eq_some_iff.1 hy).1
  rw [hpa, Int.toNat_natCast, List.getD_eq_getElem?_getD] at h2
  unfold frontS at h1
  rw [if_neg h0, hpa] at h1
  refine ⟨h1, ?_⟩
  obtain ⟨q, hq⟩ := getElem?_some_of_lt (l := rightsR t) (k := m) (by rw [rightsR_len h]; omega)
  rw [hq] at h2 ⊢
  simpa using h2
set_option maxRecDepth 100000 in
set_option maxHeartbeats 4000000 in
theorem FnRightBlocks_any (bs : List Int) (v : Value) (w : World) (h : SL (RF encU) 1 w v bs) (hb : ∀ b ∈ bs, 0 ≤ b ∧ b ≤ 255) :
    Calls Try.prog 4 #[v] w fun e w' => e = .returned (.bool true) ∧ Up w w' := by
  have H := Lib.hid h
  obtain ⟨p, c, rfl, _, _⟩ := h.openc
  clear h
  by_cases hl : 1048576 < bs.length
  · go_enter Try.func4, Try.ntmps4
    go_wp2_with fail
    go_ret
    exact ⟨rfl, (.of (by repeat (first | (with_reducible exact Ext.refl _) | (with_reducible refine Ext.up ?_ _) | (with_reducible refine Ext.alloc ?_ _) | (with_reducible refine Ext.drew ?_) | (with_reducible refine Ext.setRow ?_ (by first | exact LeS.le | exact LeS.add _ | (simp; done) | (simp; omega)) _) | (with_reducible refine Ext.setCell ?_ (by first | exact LeS.le | exact LeS.add _ | (simp; done) | (simp; omega)) _))))⟩
  go_enter Try.func4, Try.ntmps4
  go_wp2_with fail
  refine (drawRightBlocks_any bs _ _ (H.out.up (by repeat (first | (with_reducible exact Ext.refl _) | (with_reducible refine Ext.up ?_ _) | (with_reducible refine Ext.alloc ?_ _) | (with_reducible refine Ext.drew ?_) | (with_reducible refine Ext.setRow ?_ (by first | exact LeS.le | exact LeS.add _ | (simp; done) | (simp; omega)) _) | (with_reducible refine Ext.setCell ?_ (by first | exact LeS.le | exact LeS.add _ | (simp; done) | (simp; omega)) _)))) hb).mono ?_; rintro e w' ⟨v0, v1, v2, t, rfl, ⟨z0, rfl⟩, -, hs⟩
  obtain ⟨p0, c0, rfl, _, _⟩ := hs.base.openc
  obtain ⟨p1, c1, rfl, hlb, hcb, hc1⟩ := hs.bs.open
  obtain ⟨p2, c2, rfl, hlp, hc2⟩ := hs.pr.open
  have HS := Lib.hid hs
  clear hs
  have ki := fun w h => iRightBlocks_any t (.slice p0 t.base.length c0) (.slice p1 t.bs.length c1) (.slice p2 t.pr.length c2) w h
  have ks := fun w h => sRightBlocks_any t (.slice p0 t.base.length c0) (.slice p1 t.bs.length c1) (.slice p2 t.pr.length c2) w h
  have kv := fun w h => sTreeValid_any t (.slice p0 t.base.length c0) (.slice p1 t.bs.length c1) (.slice p2 t.pr.length c2) w h
  rcases hok : t.ok with _ | _
  · have e0 : rightsR t = [] := by unfold rightsR; rw [hok]; rfl
    simp only [e0] at ki ks
    simp only [hok] at kv
    clear e0 hok hc1 hc2
    go_wp2_with fail
    refine (ki _ (HS.out.up (by repeat (first | (with_reducible exact Ext.refl _) | (with_reducible refine Ext.up ?_ _) | (with_reducible refine Ext.alloc ?_ _) | (with_reducible refine Ext.drew ?_) | (with_reducible refine Ext.setRow ?_ (by first | exact LeS.le | exact LeS.add _ | (simp; done) | (simp; omega)) _) | (with_reducible refine Ext.setCell ?_ (by first | exact LeS.le | exact LeS.add _ | (simp; done) | (simp; omega)) _))))).mono ?_; rintro e w' ⟨vx, rfl, ⟨z1, rfl⟩, ox⟩
    obtain ⟨px, cx, rfl, _, _⟩ := (ox.sl encB_length).openc
    clear ox
    go_wp2_with fail
    refine (ks _ (HS.out.up (by repeat (first | (with_reducible exact Ext.refl _) | (with_reducible refine Ext.up ?_ _) | (with_reducible refine Ext.alloc ?_ _) | (with_reducible refine Ext.drew ?_) | (with_reducible refine Ext.setRow ?_ (by first | exact LeS.le | exact LeS.add _ | (simp; done) | (simp; omega)) _) | (with_reducible refine Ext.setCell ?_ (by first | exact LeS.le | exact LeS.add _ | (simp; done) | (simp; omega)) _))))).mono ?_; rintro e w' ⟨vy, rfl, ⟨z2, rfl⟩, oy⟩
    obtain ⟨py, cy, rfl, _, _⟩ := (oy.sl encB_length).openc
    clear oy
    go_wp2_with (first | (go_at_call 11; refine (kv _ (HS.out.up (by repeat (first | (with_reducible exact Ext.refl _) | (with_reducible refine Ext.up ?_ _) | (with_reducible refine Ext.alloc ?_ _) | (with_reducible refine Ext.drew ?_) | (with_reducible refine Ext.setRow ?_ (by first | exact LeS.le | exact LeS.add _ | (simp; done) | (simp; omega)) _) | (with_reducible refine Ext.setCell ?_ (by first | exact LeS.le | exact LeS.add _ | (simp; done) | (simp; omega)) _))))).mono ?_; rintro e w' ⟨rfl, z4, rfl⟩) | (go_at_call 12; refine (alive_any _).mono ?_; rintro e w' ⟨rfl, z5, rfl⟩))
    go_ret
    exact ⟨rfl, (.of (by repeat (first | (with_reducible exact Ext.refl _) | (with_reducible refine Ext.up ?_ _) | (with_reducible refine Ext.alloc ?_ _) | (with_reducible refine Ext.drew ?_) | (with_reducible refine Ext.setRow ?_ (by first | exact LeS.le | exact LeS.add _ | (simp; done) | (simp; omega)) _) | (with_reducible refine Ext.setCell ?_ (by first | exact LeS.le | exact LeS.add _ | (simp; done) | (simp; omega)) _))))⟩
  simp only [hok] at kv
  have hl := rightsR_len hok
  have hR0 := right_zero hok
  have HRB := Lib.hid (fun n y h => @right_blk t hok n y h)
  have HRP := Lib.hid (fun n m y h => @right_before t hok n m y h)
  have HRT := Lib.hid (fun n y h h' => @right_root t hok n y h h')
  have HLK := Lib.hid (fun n h0 h => @link_at t hok n h0 h)
  have hpl := Lib.hid (Tree.lens hok).1
  generalize rightsR t = R at *
  have HL := Lib.hid hl
  have hpos : 0 < R.length := (List.getElem?_eq_some_iff.1 hR0).1
  have HR0 := Lib.hid hR0
  clear hl hok hR0
  go_wp2_with fail
  refine (ki _ (HS.out.up (by repeat (first | (with_reducible exact Ext.refl _) | (with_reducible refine Ext.up ?_ _) | (with_reducible refine Ext.alloc ?_ _) | (with_reducible refine Ext.drew ?_) | (with_reducible refine Ext.setRow ?_ (by first | exact LeS.le | exact LeS.add _ | (simp; done) | (simp; omega)) _) | (with_reducible refine Ext.setCell ?_ (by first | exact LeS.le | exact LeS.add _ | (simp; done) | (simp; omega)) _))))).mono ?_; rintro e w' ⟨vx, rfl, ⟨z1, rfl⟩, ox⟩
  obtain ⟨px, cx, rfl, _, hcx⟩ := (ox.sl encB_length).open
  obtain ⟨bx, ox0, rfl, hbx, hx0⟩ := hcx 0 _ HR0.out
  have x0 : z1.val.cell? ⟨bx, ox0, none⟩ = some (.bool true) := by have := hx0 0 _ rfl; simpa using this
  have HCX := Lib.hid hcx
  clear ox hcx hx0
  go_wp2_with fail
  refine (ks _ (HS.out.up (by repeat (first | (with_reducible exact Ext.refl _) | (with_reducible refine Ext.up ?_ _) | (with_reducible refine Ext.alloc ?_ _) | (with_reducible refine Ext.drew ?_) | (with_reducible refine Ext.setRow ?_ (by first | exact LeS.le | exact LeS.add _ | (simp; done) | (simp; omega)) _) | (with_reducible refine Ext.setCell ?_ (by first | exact LeS.le | exact LeS.add _ | (simp; done) | (simp; omega)) _))))).mono ?_; rintro e w' ⟨vy, rfl, ⟨z2, rfl⟩, oy⟩
  obtain ⟨py, cy, rfl, _, hcy⟩ := (oy.sl encB_length).open
  have HCY := Lib.hid hcy
  clear oy hcy
  have HC1 := Lib.hid hc1; have HC2 := Lib.hid hc2
  clear hc1 hc2
  go_wp2_with (first | (go_at_call 11; refine (kv _ (HS.out.up (by repeat (first | (with_reducible exact Ext.refl _) | (with_reducible refine Ext.up ?_ _) | (with_reducible refine Ext.alloc ?_ _) | (with_reducible refine Ext.drew ?_) | (with_reducible refine Ext.setRow ?_ (by first | exact LeS.le | exact LeS.add _ | (simp; done) | (simp; omega)) _) | (with_reducible refine Ext.setCell ?_ (by first | exact LeS.le | exact LeS.add _ | (simp; done) | (simp; omega)) _))))).mono ?_; rintro e w' ⟨rfl, z4, rfl⟩))
  go_loopw [6] (fun s6 wr => ∃ (k : Nat), s6 = .int .i64 k ∧ k ≤ R.length ∧ Up z4.val wr) (fun s6 _ => R.length - (intOf s6).toNat)
  case atStart => exact ⟨0, rfl, Nat.zero_le _, (.of (by repeat (first | (with_reducible exact Ext.refl _) | (with_reducible refine Ext.up ?_ _) | (with_reducible refine Ext.alloc ?_ _) | (with_reducible refine Ext.drew ?_) | (with_reducible refine Ext.setRow ?_ (by first | exact LeS.le | exact LeS.add _ | (simp; done) | (simp; omega)) _) | (with_reducible refine Ext.setCell ?_ (by first | exact LeS.le | exact LeS.add _ | (simp; done) | (simp; omega)) _))))⟩
  case round =>
    obtain ⟨k, rfl, hk, ⟨z, rfl⟩⟩ := hrel
    by_cases hlt : k < R.length
    · have hlen := HL.out
      obtain ⟨y, hyk⟩ := getElem?_some_of_lt (l := t.bs) (k := k) (by omega)
      obtain ⟨r, hrk⟩ := getElem?_some_of_lt hlt
      obtain ⟨bq, oq, e, _, hxk⟩ := HCX.out k _ hrk
      cases e
      obtain ⟨by_, oy0, rfl, hby, hyy⟩ := HCY.out k _ hrk
      have xk : z1.val.cell? ⟨bx, ox0 + k, none⟩ = some (.bool r) := by have := hxk 0 _ rfl; simpa using this
      have yk : z2.val.cell? ⟨by_, oy0 + k, none⟩ = some (.bool r) := by have := hyy 0 _ rfl; simpa using this
      obtain ⟨b1, off1, q1, d1, rfl, hb1, f0, f1, f2, f3, f4, f5, hX⟩ := HC1.out k y hyk
      have k0 : (0 : Int) ≤ (k : Int) := by omega
      have kl : (k : Int) < (R.length : Int) := by omega
      have kb : (k : Int) < (t.bs.length : Int) := by omega
      have kst := fun w h => iStoreOf_any t (.slice p0 t.base.length c0) (.slice (some ⟨b1, off1, none⟩) t.bs.length c1) (.slice p2 t.pr.length c2) (k : Int) w h
      have HX := Lib.hid hX
      rcases r with _ | _
      · have hne : 0 < k := by
          rcases Nat.eq_zero_or_pos k with rfl | h
          · rw [HR0.out] at hrk; cases hrk
          · exact h
        have g0 : decide ((0 : Int) < (k : Int)) = true := by simpa using hne
        clear hlen hyk hrk hxk hyy hX kst
        go_wp2_with fail
        (refine wp_region_up (by kernel_rfl) (by kernel_rfl) ?_; (repeat (go_big_quiet_step (fail))); refine wpQuiet_nil ?_; intro _ hw'; obtain ⟨zq, hw''⟩ := hw'; subst hw'')
        go_wp2_with fail
        (refine wp_region_up (by kernel_rfl) (by kernel_rfl) ?_; (repeat (go_big_quiet_step (fail))); refine wpQuiet_nil ?_; intro _ hw'; obtain ⟨zq, hw''⟩ := hw'; subst hw'')
        go_wp2_with fail
        (refine wp_region_up (by kernel_rfl) (by kernel_rfl) ?_; (repeat (go_big_quiet_step (fail))); refine wpQuiet_nil ?_; intro _ hw'; obtain ⟨zq, hw''⟩ := hw'; subst hw'')
        go_wp2_with fail
        go_roundw
        case rel => exact ⟨k + 1, by go_num, by omega, (.of (by repeat (first | (with_reducible exact Ext.refl _) | (with_reducible refine Ext.up ?_ _) | (with_reducible refine Ext.alloc ?_ _) | (with_reducible refine Ext.drew ?_) | (with_reducible refine Ext.setRow ?_ (by first | exact LeS.le | exact LeS.add _ | (simp; done) | (simp; omega)) _) | (with_reducible refine Ext.setCell ?_ (by first | exact LeS.le | exact LeS.add _ | (simp; done) | (simp; omega)) _))))⟩
        case measure => simp [intOf]; omega
      have hroot := HRT.out k y hyk (HRB.out k y hyk hrk).1
      by_cases h0 : k = 0
      · have g0 : decide ((0 : Int) < (k : Int)) = false := by simp [h0]
        have g1 : ¬ 0 < k := by omega
        clear hlen hyk hrk hxk hyy hX h0
        generalize storeR t (k : Int) = S at *
        have kro := fun v w h => iRootOf_any S v w h
        rw [hroot] at kro
        clear hroot
        go_wp2_with fail
        (refine wp_region_up (by kernel_rfl) (by kernel_rfl) ?_; (repeat (go_big_quiet_step (fail))); refine wpQuiet_nil ?_; intro _ hw'; obtain ⟨zq, hw''⟩ := hw'; subst hw'')
        go_wp2_with fail
        (refine wp_region_up (by kernel_rfl) (by kernel_rfl) ?_; (repeat (go_big_quiet_step (fail))); refine wpQuiet_nil ?_; intro _ hw'; obtain ⟨zq, hw''⟩ := hw'; subst hw'')
        go_wp2_with fail
        (go_region_held3 (fun w' => (∀ n i, ∀ [LtS n z.val], w'.cell? ⟨n, i, none⟩ = World.cell? z.val ⟨n, i, none⟩) ∧ Ext z.val w') ((refine S_of_ext ?_; (repeat (first | (with_reducible exact Ext.refl _) | (with_reducible refine Ext.up ?_ _) | (with_reducible refine Ext.alloc ?_ _) | (with_reducible refine Ext.drew ?_) | (with_reducible refine Ext.setRow ?_ (by first | exact LeS.le | exact LeS.add _ | (simp; done) | (simp; omega)) _) | (with_reducible refine Ext.setCell ?_ (by first | exact LeS.le | exact LeS.add _ | (simp; done) | (simp; omega)) _))); done)) (first | ((go_at_call 8; refine (kst _ (HS.out.up (by repeat (first | (with_reducible exact Ext.refl _) | (with_reducible refine Ext.up ?_ _) | (with_reducible refine Ext.alloc ?_ _) | (with_reducible refine Ext.drew ?_) | (with_reducible refine Ext.setRow ?_ (by first | exact LeS.le | exact LeS.add _ | (simp; done) | (simp; omega)) _) | (with_reducible refine Ext.setCell ?_ (by first | exact LeS.le | exact LeS.add _ | (simp; done) | (simp; omega)) _))))).mono ?_; rintro e w' ⟨vm, rfl, ⟨z6, rfl⟩, om⟩); obtain ⟨p6, c6, hvm, _, _⟩ := (om.sl Ent.enc_length).openc; subst hvm; have OM := Lib.hid (om.sl Ent.enc_length); clear om) | (go_at_call 19; refine (kro _ _ (OM.out.up (by repeat (first | (with_reducible exact Ext.refl _) | (with_reducible refine Ext.up ?_ _) | (with_reducible refine Ext.alloc ?_ _) | (with_reducible refine Ext.drew ?_) | (with_reducible refine Ext.setRow ?_ (by first | exact LeS.le | exact LeS.add _ | (simp; done) | (simp; omega)) _) | (with_reducible refine Ext.setCell ?_ (by first | exact LeS.le | exact LeS.add _ | (simp; done) | (simp; omega)) _))))).mono ?_; rintro e w' ⟨rfl, z7, rfl⟩)))
        go_wp2_with fail
        go_roundw
        case rel => exact ⟨k + 1, by go_num, by omega, (.of (by repeat (first | (with_reducible exact Ext.refl _) | (with_reducible refine Ext.up ?_ _) | (with_reducible refine Ext.alloc ?_ _) | (with_reducible refine Ext.drew ?_) | (with_reducible refine Ext.setRow ?_ (by first | exact LeS.le | exact LeS.add _ | (simp; done) | (simp; omega)) _) | (with_reducible refine Ext.setCell ?_ (by first | exact LeS.le | exact LeS.add _ | (simp; done) | (simp; omega)) _))))⟩
        case measure => simp [intOf]; omega
      · have hne : 0 < k := by omega
        have g0 : decide ((0 : Int) < (k : Int)) = true := by simpa using hne
        obtain ⟨m, hm, hpa, hmk, _⟩ := HLK.out k h0 (by omega)
        obtain ⟨hbr, hrm⟩ := HRP.out k m y hyk hrk h0 hpa hmk
        obtain ⟨bq, oq, e, _, hxm⟩ := HCX.out m _ hrm
        cases e
        have xm : z1.val.cell? ⟨bx, ox0 + m, none⟩ = some (.bool true) := by have := hxm 0 _ rfl; simpa using this
        obtain ⟨b2, off2, rfl, hb2, hp2⟩ := HC2.out k _ hm
        have pm : z0.val.cell? ⟨b2, off2 + k, none⟩ = some (.int .i64 m) := by have := hp2 0 _ rfl; simpa using this
        have kp : (k : Int) < (t.pr.length : Int) := by have := hpl.out; omega
        have m0 : (0 : Int) ≤ (m : Int) := by omega
        have ml : (m : Int) < (R.length : Int) := by omega
        have ksm := fun w h => iStoreOf_any t (.slice p0 t.base.length c0) (.slice (some ⟨b1, off1, none⟩) t.bs.length c1) (.slice (some ⟨b2, off2, none⟩) t.pr.length c2) (m : Int) w h
        generalize storeR t (m : Int) = SM at *
        have kbr := fun v v' w h h' => iBlockRight_any y.1 y.2 SM v v' w h h'
        rw [hbr] at kbr
        clear hlen hyk hrk hxk hyy hX h0 hm hpa hmk hbr hrm hxm hp2
        generalize storeR t (k : Int) = S at *
        have kro := fun v w h => iRootOf_any S v w h
        rw [hroot] at kro
        clear hroot
        go_wp2_with fail
        (refine wp_region_up (by kernel_rfl) (by kernel_rfl) ?_; (repeat (go_big_quiet_step (fail))); refine wpQuiet_nil ?_; intro _ hw'; obtain ⟨zq, hw''⟩ := hw'; subst hw'')
        go_wp2_with fail
        (go_region_held3 (fun w' => (∀ n i, ∀ [LtS n z.val], w'.cell? ⟨n, i, none⟩ = World.cell? z.val ⟨n, i, none⟩) ∧ Ext z.val w') ((refine S_of_ext ?_; (repeat (first | (with_reducible exact Ext.refl _) | (with_reducible refine Ext.up ?_ _) | (with_reducible refine Ext.alloc ?_ _) | (with_reducible refine Ext.drew ?_) | (with_reducible refine Ext.setRow ?_ (by first | exact LeS.le | exact LeS.add _ | (simp; done) | (simp; omega)) _) | (with_reducible refine Ext.setCell ?_ (by first | exact LeS.le | exact LeS.add _ | (simp; done) | (simp; omega)) _))); done)) (first | ((go_at_call 8; refine (ksm _ (HS.out.up (by repeat (first | (with_reducible exact Ext.refl _) | (with_reducible refine Ext.up ?_ _) | (with_reducible refine Ext.alloc ?_ _) | (with_reducible refine Ext.drew ?_) | (with_reducible refine Ext.setRow ?_ (by first | exact LeS.le | exact LeS.add _ | (simp; done) | (simp; omega)) _) | (with_reducible refine Ext.setCell ?_ (by first | exact LeS.le | exact LeS.add _ | (simp; done) | (simp; omega)) _))))).mono ?_; rintro e w' ⟨vn, rfl, ⟨z8, rfl⟩, on⟩); obtain ⟨p8, c8, hvn, _, _⟩ := (on.sl Ent.enc_length).openc; subst hvn; have ON := Lib.hid (on.sl Ent.enc_length); clear on) | (go_at_call 18; refine (kbr _ _ _ (HX.out.up (by repeat (first | (with_reducible exact Ext.refl _) | (with_reducible refine Ext.up ?_ _) | (with_reducible refine Ext.alloc ?_ _) | (with_reducible refine Ext.drew ?_) | (with_reducible refine Ext.setRow ?_ (by first | exact LeS.le | exact LeS.add _ | (simp; done) | (simp; omega)) _) | (with_reducible refine Ext.setCell ?_ (by first | exact LeS.le | exact LeS.add _ | (simp; done) | (simp; omega)) _)))) (ON.out.up (by repeat (first | (with_reducible exact Ext.refl _) | (with_reducible refine Ext.up ?_ _) | (with_reducible refine Ext.alloc ?_ _) | (with_reducible refine Ext.drew ?_) | (with_reducible refine Ext.setRow ?_ (by first | exact LeS.le | exact LeS.add _ | (simp; done) | (simp; omega)) _) | (with_reducible refine Ext.setCell ?_ (by first | exact LeS.le | exact LeS.add _ | (simp; done) | (simp; omega)) _))))).mono ?_; rintro e w' ⟨rfl, z9, rfl⟩)))
        go_wp2_with fail
        (go_region_held3 (fun w' => (∀ n i, ∀ [LtS n z.val], w'.cell? ⟨n, i, none⟩ = World.cell? z.val ⟨n, i, none⟩) ∧ Ext z.val w') ((refine S_of_ext ?_; (repeat (first | (with_reducible exact Ext.refl _) | (with_reducible refine Ext.up ?_ _) | (with_reducible refine Ext.alloc ?_ _) | (with_reducible refine Ext.drew ?_) | (with_reducible refine Ext.setRow ?_ (by first | exact LeS.le | exact LeS.add _ | (simp; done) | (simp; omega)) _) | (with_reducible refine Ext.setCell ?_ (by first | exact LeS.le | exact LeS.add _ | (simp; done) | (simp; omega)) _))); done)) (first | ((go_at_call 8; refine (kst _ (HS.out.up (by repeat (first | (with_reducible exact Ext.refl _) | (with_reducible refine Ext.up ?_ _) | (with_reducible refine Ext.alloc ?_ _) | (with_reducible refine Ext.drew ?_) | (with_reducible refine Ext.setRow ?_ (by first | exact LeS.le | exact LeS.add _ | (simp; done) | (simp; omega)) _) | (with_reducible refine Ext.setCell ?_ (by first | exact LeS.le | exact LeS.add _ | (simp; done) | (simp; omega)) _))))).mono ?_; rintro e w' ⟨vm, rfl, ⟨z6, rfl⟩, om⟩); obtain ⟨p6, c6, hvm, _, _⟩ := (om.sl Ent.enc_length).openc; subst hvm; have OM := Lib.hid (om.sl Ent.enc_length); clear om) | (go_at_call 19; refine (kro _ _ (OM.out.up (by repeat (first | (with_reducible exact Ext.refl _) | (with_reducible refine Ext.up ?_ _) | (with_reducible refine Ext.alloc ?_ _) | (with_reducible refine Ext.drew ?_) | (with_reducible refine Ext.setRow ?_ (by first | exact LeS.le | exact LeS.add _ | (simp; done) | (simp; omega)) _) | (with_reducible refine Ext.setCell ?_ (by first | exact LeS.le | exact LeS.add _ | (simp; done) | (simp; omega)) _))))).mono ?_; rintro e w' ⟨rfl, z7, rfl⟩)))
        go_wp2_with fail
        go_roundw
        case rel => exact ⟨k + 1, by go_num, by omega, (.of (by repeat (first | (with_reducible exact Ext.refl _) | (with_reducible refine Ext.up ?_ _) | (with_reducible refine Ext.alloc ?_ _) | (with_reducible refine Ext.drew ?_) | (with_reducible refine Ext.setRow ?_ (by first | exact LeS.le | exact LeS.add _ | (simp; done) | (simp; omega)) _) | (with_reducible refine Ext.setCell ?_ (by first | exact LeS.le | exact LeS.add _ | (simp; done) | (simp; omega)) _))))⟩
        case measure => simp [intOf]; omega
    · obtain rfl : k = R.length := by omega
      go_wp2_with fail
      go_ret
      exact ⟨rfl, (.of (by repeat (first | (with_reducible exact Ext.refl _) | (with_reducible refine Ext.up ?_ _) | (with_reducible refine Ext.alloc ?_ _) | (with_reducible refine Ext.drew ?_) | (with_reducible refine Ext.setRow ?_ (by first | exact LeS.le | exact LeS.add _ | (simp; done) | (simp; omega)) _) | (with_reducible refine Ext.setCell ?_ (by first | exact LeS.le | exact LeS.add _ | (simp; done) | (simp; omega)) _))))⟩
end Go.Proofs.Yteiemjebdhmnaaa
