/- Walks: engines on the reference's side: EngineValid. -/
import Derived.Test.YtnknamddonjnjaaGEoVTop21
import Derived.Test.YtnknamddonjnjaaGEoVTop18
set_option linter.unusedSimpArgs false
set_option linter.unusedVariables false
namespace Go.Proofs.Ytnknamddonjnjaa
open Go Go.RowKit Go.Proofs

set_option maxRecDepth 100000 in
set_option maxHeartbeats 8000000 in
theorem sEngineValid_any (e : Eng) (v0 v1 v2 v3 : Value) (w : World) (h : SG w v0 v1 v2 v3 e) (hvl : e.vers.length ≤ 1048576) :
    Calls Try.prog 7 #[.agg #[v0, v1, v2, v3]] w fun ed w' => ed = .returned (.bool e.ok) ∧ Up w w' := by
  have HG := Lib.hid h
  obtain ⟨p0, c0, rfl, _, _⟩ := h.base.openc
  obtain ⟨p1, c1, rfl, _, _⟩ := h.acts.openc
  obtain ⟨p2, c2, rfl, _, _⟩ := h.vers.openc
  obtain ⟨p3, c3, rfl, _, hcs⟩ := h.sl.open
  have HCS := Lib.hid hcs
  have kst := fun w h => sStoreValid_any e.base (.slice p0 e.base.length c0) w h
  have kac := fun w h => sActionsValid_any e.acts (.slice p1 e.acts.length c1) w h
  have hE := Lib.hid (show e.ok = (entsOk 1 e.base && (actsOk e.acts && (decide (e.sl.length = e.acts.length) && (upTo (slAt e) e.sl.length && (sameL sameV1 (versE (e.sl.map (·.e)) e.sl.length) e.vers && upTo (ckAt e) e.sl.length))))) from rfl)
  generalize e.ok = B at *
  clear h hcs
  rcases guards3 (entsOk 1 e.base) (actsOk e.acts) (decide (e.sl.length = e.acts.length)) with g1 | ⟨g1, g2⟩ | ⟨g1, g2, g3⟩ | ⟨g1, g2, g3⟩
  · rw [g1] at kst hE
    obtain rfl : B = false := hE.out
    clear g1
    go_enter Try.func7, Try.ntmps7
    go_wp2_with fail
    refine (kst _ (HG.out.base.up (by repeat (first | (with_reducible exact Ext.refl _) | (with_reducible refine Ext.up ?_ _) | (with_reducible refine Ext.alloc ?_ _) | (with_reducible refine Ext.drew ?_) | (with_reducible refine Ext.setRow ?_ (by first | exact LeS.le | exact LeS.add _ | (simp; done) | (simp; omega)) _) | (with_reducible refine Ext.setCell ?_ (by first | exact LeS.le | exact LeS.add _ | (simp; done) | (simp; omega)) _))))).mono ?_; rintro ed w' ⟨rfl, ⟨z1, rfl⟩⟩
    go_wp2_with fail
    go_ret
    exact ⟨rfl, (.of (by repeat (first | (with_reducible exact Ext.refl _) | (with_reducible refine Ext.up ?_ _) | (with_reducible refine Ext.alloc ?_ _) | (with_reducible refine Ext.drew ?_) | (with_reducible refine Ext.setRow ?_ (by first | exact LeS.le | exact LeS.add _ | (simp; done) | (simp; omega)) _) | (with_reducible refine Ext.setCell ?_ (by first | exact LeS.le | exact LeS.add _ | (simp; done) | (simp; omega)) _))))⟩
  · rw [g1] at kst hE; rw [g2] at kac hE
    obtain rfl : B = false := hE.out
    clear g1 g2
    go_enter Try.func7, Try.ntmps7
    go_wp2_with fail
    refine (kst _ (HG.out.base.up (by repeat (first | (with_reducible exact Ext.refl _) | (with_reducible refine Ext.up ?_ _) | (with_reducible refine Ext.alloc ?_ _) | (with_reducible refine Ext.drew ?_) | (with_reducible refine Ext.setRow ?_ (by first | exact LeS.le | exact LeS.add _ | (simp; done) | (simp; omega)) _) | (with_reducible refine Ext.setCell ?_ (by first | exact LeS.le | exact LeS.add _ | (simp; done) | (simp; omega)) _))))).mono ?_; rintro ed w' ⟨rfl, ⟨z1, rfl⟩⟩
    go_wp2_with fail
    refine (kac _ (HG.out.acts.up (by repeat (first | (with_reducible exact Ext.refl _) | (with_reducible refine Ext.up ?_ _) | (with_reducible refine Ext.alloc ?_ _) | (with_reducible refine Ext.drew ?_) | (with_reducible refine Ext.setRow ?_ (by first | exact LeS.le | exact LeS.add _ | (simp; done) | (simp; omega)) _) | (with_reducible refine Ext.setCell ?_ (by first | exact LeS.le | exact LeS.add _ | (simp; done) | (simp; omega)) _))))).mono ?_; rintro ed w' ⟨rfl, ⟨z2, rfl⟩⟩
    go_wp2_with fail
    go_ret
    exact ⟨rfl, (.of (by repeat (first | (with_reducible exact Ext.refl _) | (with_reducible refine Ext.up ?_ _) | (with_reducible refine Ext.alloc ?_ _) | (with_reducible refine Ext.drew ?_) | (with_reducible refine Ext.setRow ?_ (by first | exact LeS.le | exact LeS.add _ | (simp; done) | (simp; omega)) _) | (with_reducible refine Ext.setCell ?_ (by first | exact LeS.le | exact LeS.add _ | (simp; done) | (simp; omega)) _))))⟩
  · rw [g1] at kst hE; rw [g2] at kac hE; rw [g3] at hE
    obtain rfl : B = false := hE.out
    have g3' : ((e.sl.length : Int) != (e.acts.length : Int)) = true := by rw [bne_iff_ne]; have := of_decide_eq_false g3; omega
    clear g1 g2 g3
    go_enter Try.func7, Try.ntmps7
    go_wp2_with fail
    refine (kst _ (HG.out.base.up (by repeat (first | (with_reducible exact Ext.refl _) | (with_reducible refine Ext.up ?_ _) | (with_reducible refine Ext.alloc ?_ _) | (with_reducible refine Ext.drew ?_) | (with_reducible refine Ext.setRow ?_ (by first | exact LeS.le | exact LeS.add _ | (simp; done) | (simp; omega)) _) | (with_reducible refine Ext.setCell ?_ (by first | exact LeS.le | exact LeS.add _ | (simp; done) | (simp; omega)) _))))).mono ?_; rintro ed w' ⟨rfl, ⟨z1, rfl⟩⟩
    go_wp2_with fail
    refine (kac _ (HG.out.acts.up (by repeat (first | (with_reducible exact Ext.refl _) | (with_reducible refine Ext.up ?_ _) | (with_reducible refine Ext.alloc ?_ _) | (with_reducible refine Ext.drew ?_) | (with_reducible refine Ext.setRow ?_ (by first | exact LeS.le | exact LeS.add _ | (simp; done) | (simp; omega)) _) | (with_reducible refine Ext.setCell ?_ (by first | exact LeS.le | exact LeS.add _ | (simp; done) | (simp; omega)) _))))).mono ?_; rintro ed w' ⟨rfl, ⟨z2, rfl⟩⟩
    go_wp2_with fail
    go_ret
    exact ⟨rfl, (.of (by repeat (first | (with_reducible exact Ext.refl _) | (with_reducible refine Ext.up ?_ _) | (with_reducible refine Ext.alloc ?_ _) | (with_reducible refine Ext.drew ?_) | (with_reducible refine Ext.setRow ?_ (by first | exact LeS.le | exact LeS.add _ | (simp; done) | (simp; omega)) _) | (with_reducible refine Ext.setCell ?_ (by first | exact LeS.le | exact LeS.add _ | (simp; done) | (simp; omega)) _))))⟩
  rw [g3, g1, g2] at hE
  have hl := Lib.hid (of_decide_eq_true g3)
  have hl10 := actsOk_len g2
  have hsl10 : e.sl.length ≤ 10 := by rw [hl.out]; exact hl10
  have g3' : ((e.sl.length : Int) != (e.acts.length : Int)) = false := by rw [bne_eq_false_iff_eq]; have := of_decide_eq_true g3; omega
  have G2 := Lib.hid g2
  rw [g1] at kst; rw [g2] at kac
  obtain rfl : B = (upTo (slAt e) e.sl.length && (sameL sameV1 (versE (e.sl.map (·.e)) e.sl.length) e.vers && upTo (ckAt e) e.sl.length)) := hE.out
  clear g1 g2 g3 hE
  go_enter Try.func7, Try.ntmps7
  go_wp2_with fail
  refine (kst _ (HG.out.base.up (by repeat (first | (with_reducible exact Ext.refl _) | (with_reducible refine Ext.up ?_ _) | (with_reducible refine Ext.alloc ?_ _) | (with_reducible refine Ext.drew ?_) | (with_reducible refine Ext.setRow ?_ (by first | exact LeS.le | exact LeS.add _ | (simp; done) | (simp; omega)) _) | (with_reducible refine Ext.setCell ?_ (by first | exact LeS.le | exact LeS.add _ | (simp; done) | (simp; omega)) _))))).mono ?_; rintro ed w' ⟨rfl, ⟨z1, rfl⟩⟩
  go_wp2_with fail
  refine (kac _ (HG.out.acts.up (by repeat (first | (with_reducible exact Ext.refl _) | (with_reducible refine Ext.up ?_ _) | (with_reducible refine Ext.alloc ?_ _) | (with_reducible refine Ext.drew ?_) | (with_reducible refine Ext.setRow ?_ (by first | exact LeS.le | exact LeS.add _ | (simp; done) | (simp; omega)) _) | (with_reducible refine Ext.setCell ?_ (by first | exact LeS.le | exact LeS.add _ | (simp; done) | (simp; omega)) _))))).mono ?_; rintro ed w' ⟨rfl, ⟨z2, rfl⟩⟩
  clear kst kac
  go_wp2_with fail
  go_loopw [3, 4] (fun s3 s4 wr => ∃ (k : Nat), s4 = .int .i64 k ∧ k ≤ e.sl.length ∧ Up z2.val wr ∧ upTo (slAt e) k = true ∧ Own Ver.enc 32 3 z2.val.heap.size wr s3 (versE (e.sl.map (·.e)) k)) (fun _ s4 _ => e.sl.length - (intOf s4).toNat)
  case atStart => exact ⟨0, rfl, Nat.zero_le _, (.of (by repeat (first | (with_reducible exact Ext.refl _) | (with_reducible refine Ext.up ?_ _) | (with_reducible refine Ext.alloc ?_ _) | (with_reducible refine Ext.drew ?_) | (with_reducible refine Ext.setRow ?_ (by first | exact LeS.le | exact LeS.add _ | (simp; done) | (simp; omega)) _) | (with_reducible refine Ext.setCell ?_ (by first | exact LeS.le | exact LeS.add _ | (simp; done) | (simp; omega)) _)))), rfl, Own.lit rfl (Nat.le_refl _) rfl rfl Ver.enc_length (by simp [versE])⟩
  case round =>
    obtain ⟨k, rfl, hk, ⟨z, rfl⟩, hall, hown⟩ := hrel
    have HALL := Lib.hid hall; have HO := Lib.hid hown
    clear hown
    obtain ⟨hvo, hvle⟩ := slots_vers G2.out hl.out hk hall
    by_cases hlt : k < e.sl.length
    · obtain ⟨t, ht⟩ := getElem?_some_of_lt hlt
      obtain ⟨x, hx⟩ := getElem?_some_of_lt (l := e.acts) (k := k) (by rw [← hl.out]; exact hlt)
      have hxo := actsOk_at G2.out hx
      obtain ⟨b, off, q0, d0, q1, d1, q2, d2, rfl, hb, ⟨e0, e1, e2, e3, e4, e5⟩, sf, sr, sw⟩ := HCS.out k t ht
      have ksl := fun w h => sSlot_any e (.slice p0 e.base.length c0) (.slice p1 e.acts.length c1) (.slice p2 e.vers.length c2) (.slice (some ⟨b, off, none⟩) e.sl.length c3) k x t w h hx hxo ht (by omega)
      have Hat := Lib.hid (slAt_eq ht hx)
      have Hnx := Lib.hid (versE_slot ht)
      have k0 : (0 : Int) ≤ (k : Int) := by omega
      have k1 : (k : Int) < e.sl.length := by omega
      have hwo := Lib.hid (fun h => sltOk_w (n := (k : Int)) (s := t) hxo h fun _ => trivial)
      have SW := Lib.hid sw
      clear hall ht hx hxo sf sr sw hvo
      rcases hsb : sltOk x k t with _ | _
      · rw [hsb] at ksl
        have Hf := Lib.hid (upTo_false (f := slAt e) hlt (by rw [Hat.out, hsb]))
        clear hsb hwo
        go_wp2_with fail
        refine (ksl _ (HG.out.up (by repeat (first | (with_reducible exact Ext.refl _) | (with_reducible refine Ext.up ?_ _) | (with_reducible refine Ext.alloc ?_ _) | (with_reducible refine Ext.drew ?_) | (with_reducible refine Ext.setRow ?_ (by first | exact LeS.le | exact LeS.add _ | (simp; done) | (simp; omega)) _) | (with_reducible refine Ext.setCell ?_ (by first | exact LeS.le | exact LeS.add _ | (simp; done) | (simp; omega)) _))))).mono ?_; rintro ed w' ⟨rfl, ⟨z3, rfl⟩⟩
        go_wp2_with fail
        go_ret
        exact ⟨by rw [Hf.out]; rfl, (.of (by repeat (first | (with_reducible exact Ext.refl _) | (with_reducible refine Ext.up ?_ _) | (with_reducible refine Ext.alloc ?_ _) | (with_reducible refine Ext.drew ?_) | (with_reducible refine Ext.setRow ?_ (by first | exact LeS.le | exact LeS.add _ | (simp; done) | (simp; omega)) _) | (with_reducible refine Ext.setCell ?_ (by first | exact LeS.le | exact LeS.add _ | (simp; done) | (simp; omega)) _))))⟩
      · rw [hsb] at ksl
        have Ht := Lib.hid (upTo_succ (f := slAt e) HALL.out (by rw [Hat.out, hsb]))
        have hwl := entsOk_len (hwo.out hsb)
        clear hsb hwo
        go_wp2_with fail
        refine (ksl _ (HG.out.up (by repeat (first | (with_reducible exact Ext.refl _) | (with_reducible refine Ext.up ?_ _) | (with_reducible refine Ext.alloc ?_ _) | (with_reducible refine Ext.drew ?_) | (with_reducible refine Ext.setRow ?_ (by first | exact LeS.le | exact LeS.add _ | (simp; done) | (simp; omega)) _) | (with_reducible refine Ext.setCell ?_ (by first | exact LeS.le | exact LeS.add _ | (simp; done) | (simp; omega)) _))))).mono ?_; rintro ed w' ⟨rfl, ⟨z3, rfl⟩⟩
        clear ksl
        go_wp2_with fail
        refine (l9Put_any (versE (e.sl.map (·.e)) k) t.e.w _ (.slice q2 t.e.w.length d2) (k : Int) _ ((HO.out.sl Ver.enc_length).up (by repeat (first | (with_reducible exact Ext.refl _) | (with_reducible refine Ext.up ?_ _) | (with_reducible refine Ext.alloc ?_ _) | (with_reducible refine Ext.drew ?_) | (with_reducible refine Ext.setRow ?_ (by first | exact LeS.le | exact LeS.add _ | (simp; done) | (simp; omega)) _) | (with_reducible refine Ext.setCell ?_ (by first | exact LeS.le | exact LeS.add _ | (simp; done) | (simp; omega)) _)))) (SW.out.up (by repeat (first | (with_reducible exact Ext.refl _) | (with_reducible refine Ext.up ?_ _) | (with_reducible refine Ext.alloc ?_ _) | (with_reducible refine Ext.drew ?_) | (with_reducible refine Ext.setRow ?_ (by first | exact LeS.le | exact LeS.add _ | (simp; done) | (simp; omega)) _) | (with_reducible refine Ext.setCell ?_ (by first | exact LeS.le | exact LeS.add _ | (simp; done) | (simp; omega)) _)))) (by omega) (by omega)).mono ?_; rintro ed w' ⟨v4, rfl, ⟨z4, rfl⟩, o4⟩
        have O4 := Lib.hid o4; clear o4
        have hz := z.ext.size
        have hz3 := z3.ext.size
        go_wp2_with fail
        go_roundw
        case rel => exact ⟨k + 1, by go_num, by omega, (.of (by repeat (first | (with_reducible exact Ext.refl _) | (with_reducible refine Ext.up ?_ _) | (with_reducible refine Ext.alloc ?_ _) | (with_reducible refine Ext.drew ?_) | (with_reducible refine Ext.setRow ?_ (by first | exact LeS.le | exact LeS.add _ | (simp; done) | (simp; omega)) _) | (with_reducible refine Ext.setCell ?_ (by first | exact LeS.le | exact LeS.add _ | (simp; done) | (simp; omega)) _)))), Ht.out, by rw [Hnx.out]; exact O4.out.lo (by omega)⟩
        case measure => simp [intOf] <;> omega
    · obtain rfl : k = e.sl.length := by omega
      obtain ⟨pv, cv, rfl, _, hcv⟩ := (HO.out.sl Ver.enc_length).open
      have HCV := Lib.hid hcv
      obtain ⟨_, _, e9, _, hcw⟩ := HG.out.vers.open
      cases e9
      have HCW := Lib.hid hcw
      have Hall := Lib.hid hall
      have hQ := Lib.hid (show sameL sameV1 (versE (e.sl.map (·.e)) e.sl.length) e.vers = (decide ((versE (e.sl.map (·.e)) e.sl.length).length = e.vers.length) && upTo (sameAt sameV1 (versE (e.sl.map (·.e)) e.sl.length) e.vers) (versE (e.sl.map (·.e)) e.sl.length).length) from rfl)
      clear HO hvo hall HALL hcv hcw
      generalize hV : versE (e.sl.map (·.e)) e.sl.length = V at HCV hvle ⊢
      have HVE := Lib.hid hV; clear hV
      by_cases hll : V.length = e.vers.length
      rotate_left
      · have hne : ((V.length : Int) != (e.vers.length : Int)) = true := by rw [bne_iff_ne]; omega
        have hF := Lib.hid (show sameL sameV1 V e.vers = false by unfold sameL; rw [decide_eq_false hll]; rfl)
        clear hll
        go_wp2_with fail
        go_ret
        exact ⟨by rw [HVE.out, hF.out, Hall.out]; rfl, (.of (by repeat (first | (with_reducible exact Ext.refl _) | (with_reducible refine Ext.up ?_ _) | (with_reducible refine Ext.alloc ?_ _) | (with_reducible refine Ext.drew ?_) | (with_reducible refine Ext.setRow ?_ (by first | exact LeS.le | exact LeS.add _ | (simp; done) | (simp; omega)) _) | (with_reducible refine Ext.setCell ?_ (by first | exact LeS.le | exact LeS.add _ | (simp; done) | (simp; omega)) _))))⟩
      have hne : ((V.length : Int) != (e.vers.length : Int)) = false := by rw [bne_eq_false_iff_eq]; omega
      have HLL := Lib.hid hll; clear hll
      have hT := Lib.hid (show sameL sameV1 V e.vers = upTo (sameAt sameV1 V e.vers) V.length by unfold sameL; rw [decide_eq_true HLL.out, Bool.true_and])
      go_wp2_with fail
      go_loopw [5] (fun s5 wr => ∃ (k : Nat), s5 = .int .i64 k ∧ k ≤ V.length ∧ Up z.val wr ∧ upTo (sameAt sameV1 V e.vers) k = true) (fun s5 _ => V.length - (intOf s5).toNat)
      case atStart => exact ⟨0, rfl, Nat.zero_le _, .of (Ext.refl _), rfl⟩
      case round =>
        obtain ⟨k, rfl, hk, ⟨z5, rfl⟩, hall2⟩ := hrel
        have HALL2 := Lib.hid hall2; clear hall2
        by_cases hlt : k < V.length
        · obtain ⟨x, hxk⟩ := getElem?_some_of_lt hlt
          obtain ⟨y, hyk⟩ := getElem?_some_of_lt (l := e.vers) (k := k) (by rw [← HLL.out]; exact hlt)
          obtain ⟨b, off, rfl, hb, hcc⟩ := HCV.out k x hxk
          obtain ⟨b2, off2, rfl, hb2, hdd⟩ := HCW.out k y hyk
          have Hat := Lib.hid (sameAt_eq (same := sameV1) hxk hyk)
          obtain ⟨xk, xb, xv⟩ := x; obtain ⟨yk, yb, yv⟩ := y
          have c0 : z.val.cell? ⟨b, off + k * 3, none⟩ = some (.int .i64 xk) := hcc 0 _ rfl
          have c1 : z.val.cell? ⟨b, off + k * 3 + 1, none⟩ = some (.int .i64 xb) := hcc 1 _ rfl
          have c2' : z.val.cell? ⟨b, off + k * 3 + 2, none⟩ = some (.int .i64 xv) := hcc 2 _ rfl
          have d0 : w.cell? ⟨b2, off2 + k * 3, none⟩ = some (.int .i64 yk) := hdd 0 _ rfl
          have d1 : w.cell? ⟨b2, off2 + k * 3 + 1, none⟩ = some (.int .i64 yb) := hdd 1 _ rfl
          have d2 : w.cell? ⟨b2, off2 + k * 3 + 2, none⟩ = some (.int .i64 yv) := hdd 2 _ rfl
          have k0 : (0 : Int) ≤ (k : Int) := by omega
          have k1 : (k : Int) < V.length := by omega
          have k2 : (k : Int) < e.vers.length := by rw [← HLL.out]; omega
          clear hcc hdd hxk hyk HCV HCW
          rcases (show (xk ≠ yk) ∨ (xk = yk ∧ xb ≠ yb) ∨ (xk = yk ∧ xb = yb ∧ xv ≠ yv) ∨ (xk = yk ∧ xb = yb ∧ xv = yv) by omega) with hne1 | ⟨rfl, hne1⟩ | ⟨rfl, rfl, hne1⟩ | ⟨rfl, rfl, rfl⟩
          · have hb0 : (xk == yk) = false := by simpa using hne1
            have hb0' : (xk != yk) = true := by simpa using hne1
            have Hf := Lib.hid (upTo_false (f := sameAt sameV1 V e.vers) hlt (by rw [Hat.out]; simp [sameV1, hb0]))
            clear hne1
            go_wp2_with fail
            (refine wp_region_up (by kernel_rfl) (by kernel_rfl) ?_; (repeat (go_big_quiet_step (fail))); refine wpQuiet_nil ?_; intro _ hw'; obtain ⟨zq, hw''⟩ := hw'; subst hw'')
            go_wp2_with fail
            go_ret
            exact ⟨by rw [HVE.out, hT.out, Hf.out, Hall.out]; rfl, (.of (by repeat (first | (with_reducible exact Ext.refl _) | (with_reducible refine Ext.up ?_ _) | (with_reducible refine Ext.alloc ?_ _) | (with_reducible refine Ext.drew ?_) | (with_reducible refine Ext.setRow ?_ (by first | exact LeS.le | exact LeS.add _ | (simp; done) | (simp; omega)) _) | (with_reducible refine Ext.setCell ?_ (by first | exact LeS.le | exact LeS.add _ | (simp; done) | (simp; omega)) _))))⟩
          · have hb0 : (xb == yb) = false := by simpa using hne1
            have hb0' : (xb != yb) = true := by simpa using hne1
            have Hf := Lib.hid (upTo_false (f := sameAt sameV1 V e.vers) hlt (by rw [Hat.out]; simp [sameV1, hb0]))
            clear hne1
            go_wp2_with fail
            (refine wp_region_up (by kernel_rfl) (by kernel_rfl) ?_; (repeat (go_big_quiet_step (fail))); refine wpQuiet_nil ?_; intro _ hw'; obtain ⟨zq, hw''⟩ := hw'; subst hw'')
            go_wp2_with fail
            go_ret
            exact ⟨by rw [HVE.out, hT.out, Hf.out, Hall.out]; rfl, (.of (by repeat (first | (with_reducible exact Ext.refl _) | (with_reducible refine Ext.up ?_ _) | (with_reducible refine Ext.alloc ?_ _) | (with_reducible refine Ext.drew ?_) | (with_reducible refine Ext.setRow ?_ (by first | exact LeS.le | exact LeS.add _ | (simp; done) | (simp; omega)) _) | (with_reducible refine Ext.setCell ?_ (by first | exact LeS.le | exact LeS.add _ | (simp; done) | (simp; omega)) _))))⟩
          · have hb0 : (xv == yv) = false := by simpa using hne1
            have hb0' : (xv != yv) = true := by simpa using hne1
            have Hf := Lib.hid (upTo_false (f := sameAt sameV1 V e.vers) hlt (by rw [Hat.out]; simp [sameV1, hb0]))
            clear hne1
            go_wp2_with fail
            (refine wp_region_up (by kernel_rfl) (by kernel_rfl) ?_; (repeat (go_big_quiet_step (fail))); refine wpQuiet_nil ?_; intro _ hw'; obtain ⟨zq, hw''⟩ := hw'; subst hw'')
            go_wp2_with fail
            go_ret
            exact ⟨by rw [HVE.out, hT.out, Hf.out, Hall.out]; rfl, (.of (by repeat (first | (with_reducible exact Ext.refl _) | (with_reducible refine Ext.up ?_ _) | (with_reducible refine Ext.alloc ?_ _) | (with_reducible refine Ext.drew ?_) | (with_reducible refine Ext.setRow ?_ (by first | exact LeS.le | exact LeS.add _ | (simp; done) | (simp; omega)) _) | (with_reducible refine Ext.setCell ?_ (by first | exact LeS.le | exact LeS.add _ | (simp; done) | (simp; omega)) _))))⟩
          · have Ht := Lib.hid (upTo_succ (f := sameAt sameV1 V e.vers) HALL2.out (by rw [Hat.out]; simp [sameV1]))
            go_wp2_with fail
            (refine wp_region_up (by kernel_rfl) (by kernel_rfl) ?_; (repeat (go_big_quiet_step (fail))); refine wpQuiet_nil ?_; intro _ hw'; obtain ⟨zq, hw''⟩ := hw'; subst hw'')
            go_wp2_with fail
            go_roundw
            case rel => exact ⟨k + 1, by go_num, by omega, (.of (by repeat (first | (with_reducible exact Ext.refl _) | (with_reducible refine Ext.up ?_ _) | (with_reducible refine Ext.alloc ?_ _) | (with_reducible refine Ext.drew ?_) | (with_reducible refine Ext.setRow ?_ (by first | exact LeS.le | exact LeS.add _ | (simp; done) | (simp; omega)) _) | (with_reducible refine Ext.setCell ?_ (by first | exact LeS.le | exact LeS.add _ | (simp; done) | (simp; omega)) _)))), Ht.out⟩
            case measure => simp [intOf] <;> omega
        · obtain rfl : k = V.length := by omega
          have Hq := Lib.hid (show sameL sameV1 (versE (e.sl.map (·.e)) e.sl.length) e.vers = true by rw [HVE.out, hT.out, HALL2.out])
          clear HCV HCW hT HALL2
          go_wp2_with fail
          go_loopw [6] (fun s6 wr => ∃ (k : Nat), s6 = .int .i64 k ∧ k ≤ e.sl.length ∧ Up z5.val wr ∧ upTo (ckAt e) k = true) (fun s6 _ => e.sl.length - (intOf s6).toNat)
          case atStart => exact ⟨0, rfl, Nat.zero_le _, .of (Ext.refl _), rfl⟩
          case round =>
            obtain ⟨k, rfl, hk, ⟨z6, rfl⟩, hck⟩ := hrel
            have HCK := Lib.hid hck; clear hck
            by_cases hlt : k < e.sl.length
            · obtain ⟨t, ht⟩ := getElem?_some_of_lt hlt
              obtain ⟨x, hx⟩ := getElem?_some_of_lt (l := e.acts) (k := k) (by rw [← hl.out]; exact hlt)
              obtain ⟨b, off, q0, d0, q1, d1, q2, d2, rfl, hb, ⟨e0, e1, e2, e3, e4, e5⟩, -, -, -⟩ := HCS.out k t ht
              have k0 : (0 : Int) ≤ (k : Int) := by omega
              have k1 : (k : Int) < e.sl.length := by omega
              have hslk := upTo_iff.1 Hall.out k hlt
              rw [slAt_eq ht hx] at hslk
              by_cases h2 : t.st = 2
              rotate_left
              · have h2' : (t.st != 2) = true := by simpa using h2
                have Ht := Lib.hid (upTo_succ (f := ckAt e) HCK.out (ckAt_other ht h2))
                clear ht hx hslk h2
                go_wp2_with fail
                go_roundw
                case rel => exact ⟨k + 1, by go_num, by omega, (.of (by repeat (first | (with_reducible exact Ext.refl _) | (with_reducible refine Ext.up ?_ _) | (with_reducible refine Ext.alloc ?_ _) | (with_reducible refine Ext.drew ?_) | (with_reducible refine Ext.setRow ?_ (by first | exact LeS.le | exact LeS.add _ | (simp; done) | (simp; omega)) _) | (with_reducible refine Ext.setCell ?_ (by first | exact LeS.le | exact LeS.add _ | (simp; done) | (simp; omega)) _)))), Ht.out⟩
                case measure => simp [intOf] <;> omega
              obtain ⟨m1, m2, -⟩ := sltTry_parts hslk (by omega)
              have h2' : (t.st != 2) = false := by simpa using h2
              have Hc := Lib.hid (ckAt_two ht h2)
              have kcu := fun w h => sSame_cur e (.slice p0 e.base.length c0) (.slice p1 e.acts.length c1) (.slice p2 e.vers.length c2) (.slice (some ⟨b, off, none⟩) e.sl.length c3) k t w h ht (m2.trans m1.symm)
              generalize curOk e.base e.vers k t = bc at *
              clear ht hx hslk h2 m1 m2
              by_cases hk0 : k = 0
              · have hkp : decide ((0 : Int) < (k : Int)) = false := by simp; omega
                have hkp' : decide (0 < k) = false := by simp; omega
                have Hk0 := Lib.hid (show decide (k = 0) = true from decide_eq_true hk0)
                clear hk0
                rcases bc with _ | _
                · have Hf := Lib.hid (upTo_false (f := ckAt e) hlt (by rw [Hc.out]; simp))
                  go_wp2_with fail
                  refine (kcu _ (HG.out.up (by repeat (first | (with_reducible exact Ext.refl _) | (with_reducible refine Ext.up ?_ _) | (with_reducible refine Ext.alloc ?_ _) | (with_reducible refine Ext.drew ?_) | (with_reducible refine Ext.setRow ?_ (by first | exact LeS.le | exact LeS.add _ | (simp; done) | (simp; omega)) _) | (with_reducible refine Ext.setCell ?_ (by first | exact LeS.le | exact LeS.add _ | (simp; done) | (simp; omega)) _))))).mono ?_; rintro ed w' ⟨rfl, ⟨z7, rfl⟩⟩
                  go_wp2_with fail
                  go_ret
                  exact ⟨by rw [Hall.out, Hq.out, Hf.out]; rfl, (.of (by repeat (first | (with_reducible exact Ext.refl _) | (with_reducible refine Ext.up ?_ _) | (with_reducible refine Ext.alloc ?_ _) | (with_reducible refine Ext.drew ?_) | (with_reducible refine Ext.setRow ?_ (by first | exact LeS.le | exact LeS.add _ | (simp; done) | (simp; omega)) _) | (with_reducible refine Ext.setCell ?_ (by first | exact LeS.le | exact LeS.add _ | (simp; done) | (simp; omega)) _))))⟩
                · have Ht := Lib.hid (upTo_succ (f := ckAt e) HCK.out (by rw [Hc.out, Hk0.out]; rfl))
                  go_wp2_with fail
                  refine (kcu _ (HG.out.up (by repeat (first | (with_reducible exact Ext.refl _) | (with_reducible refine Ext.up ?_ _) | (with_reducible refine Ext.alloc ?_ _) | (with_reducible refine Ext.drew ?_) | (with_reducible refine Ext.setRow ?_ (by first | exact LeS.le | exact LeS.add _ | (simp; done) | (simp; omega)) _) | (with_reducible refine Ext.setCell ?_ (by first | exact LeS.le | exact LeS.add _ | (simp; done) | (simp; omega)) _))))).mono ?_; rintro ed w' ⟨rfl, ⟨z7, rfl⟩⟩
                  go_wp2_with fail
                  go_roundw
                  case rel => exact ⟨k + 1, by go_num, by omega, (.of (by repeat (first | (with_reducible exact Ext.refl _) | (with_reducible refine Ext.up ?_ _) | (with_reducible refine Ext.alloc ?_ _) | (with_reducible refine Ext.drew ?_) | (with_reducible refine Ext.setRow ?_ (by first | exact LeS.le | exact LeS.add _ | (simp; done) | (simp; omega)) _) | (with_reducible refine Ext.setCell ?_ (by first | exact LeS.le | exact LeS.add _ | (simp; done) | (simp; omega)) _)))), Ht.out⟩
                  case measure => simp [intOf] <;> omega
              have hkp : decide ((0 : Int) < (k : Int)) = true := by simp; omega
              have hkp' : decide (0 < k) = true := by simp; omega
              obtain ⟨pr, hpr⟩ := getElem?_some_of_lt (l := e.sl) (k := k - 1) (by omega)
              obtain ⟨b', off', _, _, _, _, _, _, ee, _, ⟨f0, -⟩, -⟩ := HCS.out (k - 1) pr hpr
              simp only [Option.some.injEq, Addr.mk.injEq, and_true] at ee
              obtain ⟨rfl, rfl⟩ := ee
              have km : ((k : Int) - 1).toNat = k - 1 := by omega
              have km0 : (0 : Int) ≤ (k : Int) - 1 := by omega
              have km1 : (k : Int) - 1 < e.sl.length := by omega
              have kw : IntKind.i64.wrap ((k : Int) - 1) = (k : Int) - 1 := IntWalk.i64_in _ ⟨by omega, by omega⟩
              have Hk0 := Lib.hid (show decide (k = 0) = false from decide_eq_false hk0)
              rw [hpr] at Hc
              clear hpr hk0
              rcases hp2 : (pr.st == 2) with _ | _
              · have hp2' : (pr.st != 2) = true := by rw [bne, hp2]; rfl
                have Hf := Lib.hid (upTo_false (f := ckAt e) hlt (by rw [Hc.out, Hk0.out]; simp [hp2]))
                clear hp2 kcu
                go_wp2_with fail
                go_ret
                exact ⟨by rw [Hall.out, Hq.out, Hf.out]; rfl, (.of (by repeat (first | (with_reducible exact Ext.refl _) | (with_reducible refine Ext.up ?_ _) | (with_reducible refine Ext.alloc ?_ _) | (with_reducible refine Ext.drew ?_) | (with_reducible refine Ext.setRow ?_ (by first | exact LeS.le | exact LeS.add _ | (simp; done) | (simp; omega)) _) | (with_reducible refine Ext.setCell ?_ (by first | exact LeS.le | exact LeS.add _ | (simp; done) | (simp; omega)) _))))⟩
              have hp2' : (pr.st != 2) = false := by rw [bne, hp2]; rfl
              rcases bc with _ | _
              · have Hf := Lib.hid (upTo_false (f := ckAt e) hlt (by rw [Hc.out]; simp))
                clear hp2
                go_wp2_with fail
                refine (kcu _ (HG.out.up (by repeat (first | (with_reducible exact Ext.refl _) | (with_reducible refine Ext.up ?_ _) | (with_reducible refine Ext.alloc ?_ _) | (with_reducible refine Ext.drew ?_) | (with_reducible refine Ext.setRow ?_ (by first | exact LeS.le | exact LeS.add _ | (simp; done) | (simp; omega)) _) | (with_reducible refine Ext.setCell ?_ (by first | exact LeS.le | exact LeS.add _ | (simp; done) | (simp; omega)) _))))).mono ?_; rintro ed w' ⟨rfl, ⟨z7, rfl⟩⟩
                go_wp2_with fail
                go_ret
                exact ⟨by rw [Hall.out, Hq.out, Hf.out]; rfl, (.of (by repeat (first | (with_reducible exact Ext.refl _) | (with_reducible refine Ext.up ?_ _) | (with_reducible refine Ext.alloc ?_ _) | (with_reducible refine Ext.drew ?_) | (with_reducible refine Ext.setRow ?_ (by first | exact LeS.le | exact LeS.add _ | (simp; done) | (simp; omega)) _) | (with_reducible refine Ext.setCell ?_ (by first | exact LeS.le | exact LeS.add _ | (simp; done) | (simp; omega)) _))))⟩
              · have Ht := Lib.hid (upTo_succ (f := ckAt e) HCK.out (by rw [Hc.out, Hk0.out]; simp [hp2]))
                clear hp2
                go_wp2_with fail
                refine (kcu _ (HG.out.up (by repeat (first | (with_reducible exact Ext.refl _) | (with_reducible refine Ext.up ?_ _) | (with_reducible refine Ext.alloc ?_ _) | (with_reducible refine Ext.drew ?_) | (with_reducible refine Ext.setRow ?_ (by first | exact LeS.le | exact LeS.add _ | (simp; done) | (simp; omega)) _) | (with_reducible refine Ext.setCell ?_ (by first | exact LeS.le | exact LeS.add _ | (simp; done) | (simp; omega)) _))))).mono ?_; rintro ed w' ⟨rfl, ⟨z7, rfl⟩⟩
                go_wp2_with fail
                go_roundw
                case rel => exact ⟨k + 1, by go_num, by omega, (.of (by repeat (first | (with_reducible exact Ext.refl _) | (with_reducible refine Ext.up ?_ _) | (with_reducible refine Ext.alloc ?_ _) | (with_reducible refine Ext.drew ?_) | (with_reducible refine Ext.setRow ?_ (by first | exact LeS.le | exact LeS.add _ | (simp; done) | (simp; omega)) _) | (with_reducible refine Ext.setCell ?_ (by first | exact LeS.le | exact LeS.add _ | (simp; done) | (simp; omega)) _)))), Ht.out⟩
                case measure => simp [intOf] <;> omega
            · obtain rfl : k = e.sl.length := by omega
              go_wp2_with fail
              go_ret
              exact ⟨by rw [Hall.out, Hq.out, HCK.out]; rfl, (.of (by repeat (first | (with_reducible exact Ext.refl _) | (with_reducible refine Ext.up ?_ _) | (with_reducible refine Ext.alloc ?_ _) | (with_reducible refine Ext.drew ?_) | (with_reducible refine Ext.setRow ?_ (by first | exact LeS.le | exact LeS.add _ | (simp; done) | (simp; omega)) _) | (with_reducible refine Ext.setCell ?_ (by first | exact LeS.le | exact LeS.add _ | (simp; done) | (simp; omega)) _))))⟩
end Go.Proofs.Ytnknamddonjnjaa
