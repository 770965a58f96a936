/- The law FnSerialVersions's walk. -/
import Derived.Test.YtkboefmkfpnpjaaGCflTop32
set_option linter.unusedSimpArgs false
set_option linter.unusedVariables false
namespace Go.Proofs.Ytkboefmkfpnpjaa
open Go Go.RowKit Go.Proofs

theorem putR_versE {E : List Eff} (h : ∀ e ∈ E, entsOk 0 e.w = true) {k : Nat} {e : Eff} (hk : k < 10) (he : E[k]? = some e) : putOk (versE E k) k e.w = true ∧ putR (versE E k) k e.w = versE E (k + 1) := by
  have h1 := versE_putOk h hk he
  exact ⟨h1, by rw [putR_yes h1, versE_next he]⟩
set_option maxRecDepth 100000 in
set_option maxHeartbeats 4000000 in
theorem FnSerialVersions_any (bs : List Int) (v : Value) (w : World) (h : SL (RF encU) 1 w v bs) (hb : ∀ b ∈ bs, 0 ≤ b ∧ b ≤ 255) :
    Calls Try.prog 6 #[v] w fun e w' => e = .returned (.bool true) ∧ Up w w' := by
  have H := Lib.hid h
  obtain ⟨p, c, rfl, _, _⟩ := h.openc
  clear h
  by_cases hl : 1048576 < bs.length
  · go_enter Try.func6, Try.ntmps6
    go_wp2_with fail
    go_ret
    exact ⟨rfl, (.of (by repeat (first | (with_reducible exact Ext.refl _) | (with_reducible refine Ext.up ?_ _) | (with_reducible refine Ext.alloc ?_ _) | (with_reducible refine Ext.drew ?_) | (with_reducible refine Ext.setRow ?_ (by first | exact LeS.le | exact LeS.add _ | (simp; done) | (simp; omega)) _) | (with_reducible refine Ext.setCell ?_ (by first | exact LeS.le | exact LeS.add _ | (simp; done) | (simp; omega)) _))))⟩
  go_enter Try.func6, Try.ntmps6
  go_wp2_with fail
  refine (drawRunSerial_any bs _ _ (H.out.up (by repeat (first | (with_reducible exact Ext.refl _) | (with_reducible refine Ext.up ?_ _) | (with_reducible refine Ext.alloc ?_ _) | (with_reducible refine Ext.drew ?_) | (with_reducible refine Ext.setRow ?_ (by first | exact LeS.le | exact LeS.add _ | (simp; done) | (simp; omega)) _) | (with_reducible refine Ext.setCell ?_ (by first | exact LeS.le | exact LeS.add _ | (simp; done) | (simp; omega)) _)))) hb).mono ?_; rintro e w' ⟨vs, vl, s, l, rfl, ⟨z0, rfl⟩, _, _, os, ol⟩
  obtain ⟨p0, c0, rfl, _, _⟩ := os.openc
  obtain ⟨p1, c1, rfl, _, _⟩ := ol.openc
  have HS := Lib.hid os; have HL := Lib.hid ol
  clear os ol
  have kst := fun w h => sStoreValid_any s (.slice p0 s.length c0) w h
  have kac := fun w h => sActionsValid_any l (.slice p1 l.length c1) w h
  have hno : srOk s l = false → _ := fun h => sr_no h
  have hyes : srOk s l = true → _ := fun h => sr_yes h
  have hro : srOk s l = (entsOk 1 s && actsOk l) := rfl
  have hW := Lib.hid (fun h1 h2 => serOkW (s := s) (l := l) h1 (fun x hx => by obtain ⟨i, hi⟩ := List.getElem?_of_mem hx; exact actsOk_at h2 hi))
  have hRd := Lib.hid (fun h1 h2 => fun k e he y hy => serV_read (s := s) (l := l) h1 (fun x hx => by obtain ⟨i, hi⟩ := List.getElem?_of_mem hx; exact actsOk_at h2 hi) (actsOk_len h2) (k := k) (e := e) he (y := y) hy)
  have hLa := Lib.hid (fun h1 h2 => serV_last (s := s) (l := l) h1 (fun x hx => by obtain ⟨i, hi⟩ := List.getElem?_of_mem hx; exact actsOk_at h2 hi) (actsOk_len h2))
  have hEl := Lib.hid (show (runAll (valsOf s) l).2.length = l.length from runAll_len _ _)
  go_wp2_with fail
  refine (iRunSerial_any s l _ _ _ (HS.out.up (by repeat (first | (with_reducible exact Ext.refl _) | (with_reducible refine Ext.up ?_ _) | (with_reducible refine Ext.alloc ?_ _) | (with_reducible refine Ext.drew ?_) | (with_reducible refine Ext.setRow ?_ (by first | exact LeS.le | exact LeS.add _ | (simp; done) | (simp; omega)) _) | (with_reducible refine Ext.setCell ?_ (by first | exact LeS.le | exact LeS.add _ | (simp; done) | (simp; omega)) _)))) (HL.out.up (by repeat (first | (with_reducible exact Ext.refl _) | (with_reducible refine Ext.up ?_ _) | (with_reducible refine Ext.alloc ?_ _) | (with_reducible refine Ext.drew ?_) | (with_reducible refine Ext.setRow ?_ (by first | exact LeS.le | exact LeS.add _ | (simp; done) | (simp; omega)) _) | (with_reducible refine Ext.setCell ?_ (by first | exact LeS.le | exact LeS.add _ | (simp; done) | (simp; omega)) _))))).mono ?_; rintro e w' ⟨v1, v2, rfl, ⟨z1, rfl⟩, o1, se⟩
  obtain ⟨q1, d1, rfl, _, _⟩ := o1.openc
  obtain ⟨q2, d2, rfl, _, _, hcE⟩ := se.open
  have O1 := Lib.hid o1; have E1 := Lib.hid se; have HCE := Lib.hid hcE
  clear o1 se hcE
  go_wp2_with fail
  refine (sRunSerial_any s l _ _ _ (HS.out.up (by repeat (first | (with_reducible exact Ext.refl _) | (with_reducible refine Ext.up ?_ _) | (with_reducible refine Ext.alloc ?_ _) | (with_reducible refine Ext.drew ?_) | (with_reducible refine Ext.setRow ?_ (by first | exact LeS.le | exact LeS.add _ | (simp; done) | (simp; omega)) _) | (with_reducible refine Ext.setCell ?_ (by first | exact LeS.le | exact LeS.add _ | (simp; done) | (simp; omega)) _)))) (HL.out.up (by repeat (first | (with_reducible exact Ext.refl _) | (with_reducible refine Ext.up ?_ _) | (with_reducible refine Ext.alloc ?_ _) | (with_reducible refine Ext.drew ?_) | (with_reducible refine Ext.setRow ?_ (by first | exact LeS.le | exact LeS.add _ | (simp; done) | (simp; omega)) _) | (with_reducible refine Ext.setCell ?_ (by first | exact LeS.le | exact LeS.add _ | (simp; done) | (simp; omega)) _))))).mono ?_; rintro e w' ⟨v3, v4, rfl, ⟨z2, rfl⟩, o3, se⟩
  have O3 := Lib.hid o3; have E3 := Lib.hid se
  clear o3 se
  generalize srS s l = S at *
  generalize srE s l = E at *
  go_wp2_with fail
  refine (sameStore_same S _ _ _ (O1.out.up (by repeat (first | (with_reducible exact Ext.refl _) | (with_reducible refine Ext.up ?_ _) | (with_reducible refine Ext.alloc ?_ _) | (with_reducible refine Ext.drew ?_) | (with_reducible refine Ext.setRow ?_ (by first | exact LeS.le | exact LeS.add _ | (simp; done) | (simp; omega)) _) | (with_reducible refine Ext.setCell ?_ (by first | exact LeS.le | exact LeS.add _ | (simp; done) | (simp; omega)) _)))) (O3.out.up (by repeat (first | (with_reducible exact Ext.refl _) | (with_reducible refine Ext.up ?_ _) | (with_reducible refine Ext.alloc ?_ _) | (with_reducible refine Ext.drew ?_) | (with_reducible refine Ext.setRow ?_ (by first | exact LeS.le | exact LeS.add _ | (simp; done) | (simp; omega)) _) | (with_reducible refine Ext.setCell ?_ (by first | exact LeS.le | exact LeS.add _ | (simp; done) | (simp; omega)) _))))).mono ?_; rintro e w' ⟨rfl, ⟨z3, rfl⟩⟩
  go_wp2_with fail
  refine (sameEffects_same E _ _ _ (E1.out.up (by repeat (first | (with_reducible exact Ext.refl _) | (with_reducible refine Ext.up ?_ _) | (with_reducible refine Ext.alloc ?_ _) | (with_reducible refine Ext.drew ?_) | (with_reducible refine Ext.setRow ?_ (by first | exact LeS.le | exact LeS.add _ | (simp; done) | (simp; omega)) _) | (with_reducible refine Ext.setCell ?_ (by first | exact LeS.le | exact LeS.add _ | (simp; done) | (simp; omega)) _)))) (E3.out.up (by repeat (first | (with_reducible exact Ext.refl _) | (with_reducible refine Ext.up ?_ _) | (with_reducible refine Ext.alloc ?_ _) | (with_reducible refine Ext.drew ?_) | (with_reducible refine Ext.setRow ?_ (by first | exact LeS.le | exact LeS.add _ | (simp; done) | (simp; omega)) _) | (with_reducible refine Ext.setCell ?_ (by first | exact LeS.le | exact LeS.add _ | (simp; done) | (simp; omega)) _))))).mono ?_; rintro e w' ⟨rfl, ⟨z4, rfl⟩⟩
  rcases guards2 (entsOk 1 s) (actsOk l) with h1 | ⟨h1, h2⟩ | ⟨h1, h2⟩
  · simp only [h1] at kst
    clear hno hyes hro h1 kac hW hRd hLa hEl HCE
    go_wp2_with fail
    refine (kst _ (HS.out.up (by repeat (first | (with_reducible exact Ext.refl _) | (with_reducible refine Ext.up ?_ _) | (with_reducible refine Ext.alloc ?_ _) | (with_reducible refine Ext.drew ?_) | (with_reducible refine Ext.setRow ?_ (by first | exact LeS.le | exact LeS.add _ | (simp; done) | (simp; omega)) _) | (with_reducible refine Ext.setCell ?_ (by first | exact LeS.le | exact LeS.add _ | (simp; done) | (simp; omega)) _))))).mono ?_; rintro e w' ⟨rfl, ⟨z5, rfl⟩⟩
    go_wp2_with fail
    refine (alive_any _).mono ?_; rintro e w' ⟨rfl, ⟨z6, rfl⟩⟩
    go_wp2_with fail
    go_ret
    exact ⟨rfl, (.of (by repeat (first | (with_reducible exact Ext.refl _) | (with_reducible refine Ext.up ?_ _) | (with_reducible refine Ext.alloc ?_ _) | (with_reducible refine Ext.drew ?_) | (with_reducible refine Ext.setRow ?_ (by first | exact LeS.le | exact LeS.add _ | (simp; done) | (simp; omega)) _) | (with_reducible refine Ext.setCell ?_ (by first | exact LeS.le | exact LeS.add _ | (simp; done) | (simp; omega)) _))))⟩
  · simp only [h1] at kst; simp only [h2] at kac
    clear hno hyes hro h1 h2 hW hRd hLa hEl HCE
    go_wp2_with fail
    refine (kst _ (HS.out.up (by repeat (first | (with_reducible exact Ext.refl _) | (with_reducible refine Ext.up ?_ _) | (with_reducible refine Ext.alloc ?_ _) | (with_reducible refine Ext.drew ?_) | (with_reducible refine Ext.setRow ?_ (by first | exact LeS.le | exact LeS.add _ | (simp; done) | (simp; omega)) _) | (with_reducible refine Ext.setCell ?_ (by first | exact LeS.le | exact LeS.add _ | (simp; done) | (simp; omega)) _))))).mono ?_; rintro e w' ⟨rfl, ⟨z5, rfl⟩⟩
    go_wp2_with fail
    refine (kac _ (HL.out.up (by repeat (first | (with_reducible exact Ext.refl _) | (with_reducible refine Ext.up ?_ _) | (with_reducible refine Ext.alloc ?_ _) | (with_reducible refine Ext.drew ?_) | (with_reducible refine Ext.setRow ?_ (by first | exact LeS.le | exact LeS.add _ | (simp; done) | (simp; omega)) _) | (with_reducible refine Ext.setCell ?_ (by first | exact LeS.le | exact LeS.add _ | (simp; done) | (simp; omega)) _))))).mono ?_; rintro e w' ⟨rfl, ⟨z7, rfl⟩⟩
    go_wp2_with fail
    refine (alive_any _).mono ?_; rintro e w' ⟨rfl, ⟨z6, rfl⟩⟩
    go_wp2_with fail
    go_ret
    exact ⟨rfl, (.of (by repeat (first | (with_reducible exact Ext.refl _) | (with_reducible refine Ext.up ?_ _) | (with_reducible refine Ext.alloc ?_ _) | (with_reducible refine Ext.drew ?_) | (with_reducible refine Ext.setRow ?_ (by first | exact LeS.le | exact LeS.add _ | (simp; done) | (simp; omega)) _) | (with_reducible refine Ext.setCell ?_ (by first | exact LeS.le | exact LeS.add _ | (simp; done) | (simp; omega)) _))))⟩
  obtain ⟨y1, y2⟩ := hyes (by rw [hro, h1, h2]; rfl)
  have hl10 := actsOk_len h2
  have HW := hW.out h1 h2
  have HRd := hRd.out h1 h2
  have HLa := hLa.out h1 h2
  have hEl := hEl.out
  simp only [h1] at kst; simp only [h2] at kac
  clear hno hyes hro h1 h2 hW hRd hLa E3 O3
  rw [← y2] at HW HRd HLa hEl
  rw [← y1, ← hEl] at HLa
  rw [← hEl] at HRd
  clear y1 y2
  have HW := Lib.hid HW; have HRd := Lib.hid HRd; have HLa := Lib.hid HLa
  have hE10 : E.length ≤ 10 := by omega
  clear hEl
  go_wp2_with fail
  refine (kst _ (HS.out.up (by repeat (first | (with_reducible exact Ext.refl _) | (with_reducible refine Ext.up ?_ _) | (with_reducible refine Ext.alloc ?_ _) | (with_reducible refine Ext.drew ?_) | (with_reducible refine Ext.setRow ?_ (by first | exact LeS.le | exact LeS.add _ | (simp; done) | (simp; omega)) _) | (with_reducible refine Ext.setCell ?_ (by first | exact LeS.le | exact LeS.add _ | (simp; done) | (simp; omega)) _))))).mono ?_; rintro e w' ⟨rfl, ⟨z5, rfl⟩⟩
  go_wp2_with fail
  refine (kac _ (HL.out.up (by repeat (first | (with_reducible exact Ext.refl _) | (with_reducible refine Ext.up ?_ _) | (with_reducible refine Ext.alloc ?_ _) | (with_reducible refine Ext.drew ?_) | (with_reducible refine Ext.setRow ?_ (by first | exact LeS.le | exact LeS.add _ | (simp; done) | (simp; omega)) _) | (with_reducible refine Ext.setCell ?_ (by first | exact LeS.le | exact LeS.add _ | (simp; done) | (simp; omega)) _))))).mono ?_; rintro e w' ⟨rfl, ⟨z7, rfl⟩⟩
  clear kst kac
  go_wp2_with fail
  go_loopw [9, 10] (fun s9 s10 wr => ∃ (k : Nat), s10 = .int .i64 k ∧ k ≤ E.length ∧ Up z7.val wr ∧ Own Ver.enc 88 3 z7.val.heap.size wr s9 (versE E k)) (fun _ s10 _ => E.length - (intOf s10).toNat)
  case atStart => exact ⟨0, rfl, Nat.zero_le _, (.of (by repeat (first | (with_reducible exact Ext.refl _) | (with_reducible refine Ext.up ?_ _) | (with_reducible refine Ext.alloc ?_ _) | (with_reducible refine Ext.drew ?_) | (with_reducible refine Ext.setRow ?_ (by first | exact LeS.le | exact LeS.add _ | (simp; done) | (simp; omega)) _) | (with_reducible refine Ext.setCell ?_ (by first | exact LeS.le | exact LeS.add _ | (simp; done) | (simp; omega)) _)))), Own.lit rfl (Nat.le_refl _) rfl rfl Ver.enc_length (by simp [versE])⟩
  case round =>
    obtain ⟨k, rfl, hk, ⟨z, rfl⟩, hown⟩ := hrel
    have HV := Lib.hid hown; clear hown
    by_cases hlt : k < E.length
    · obtain ⟨x, hxk⟩ := getElem?_some_of_lt hlt
      obtain ⟨b, off, pr, cr, pw, cw, rfl, hb', e0, e1, e2, s1, s2⟩ := HCE.out k x hxk
      obtain ⟨h3, h4⟩ := putR_versE HW.out (by omega) hxk
      have hVl := versE_len HW.out k
      have hxl := entsOk_len (HW.out x (List.mem_of_getElem? hxk))
      have S2 := Lib.hid s2
      have k0 : (0 : Int) ≤ (k : Int) := by omega
      have k1 : (k : Int) < E.length := by omega
      have kput := fun v w h h' => iPutVersions_any (versE E k) x.w v (.slice pw x.w.length cw) (k : Int) w h h' (by omega) (by omega)
      rw [h3, h4] at kput
      clear hxk s1 s2 h3 h4 e0 e1
      go_wp2_with fail
      refine (kput _ _ ((HV.out.sl Ver.enc_length).up (by repeat (first | (with_reducible exact Ext.refl _) | (with_reducible refine Ext.up ?_ _) | (with_reducible refine Ext.alloc ?_ _) | (with_reducible refine Ext.drew ?_) | (with_reducible refine Ext.setRow ?_ (by first | exact LeS.le | exact LeS.add _ | (simp; done) | (simp; omega)) _) | (with_reducible refine Ext.setCell ?_ (by first | exact LeS.le | exact LeS.add _ | (simp; done) | (simp; omega)) _)))) (S2.out.up (by repeat (first | (with_reducible exact Ext.refl _) | (with_reducible refine Ext.up ?_ _) | (with_reducible refine Ext.alloc ?_ _) | (with_reducible refine Ext.drew ?_) | (with_reducible refine Ext.setRow ?_ (by first | exact LeS.le | exact LeS.add _ | (simp; done) | (simp; omega)) _) | (with_reducible refine Ext.setCell ?_ (by first | exact LeS.le | exact LeS.add _ | (simp; done) | (simp; omega)) _))))).mono ?_; rintro e w' ⟨v8, rfl, ⟨z8, rfl⟩, o8⟩
      have O8 := Lib.hid o8; clear o8 kput
      go_wp2_with fail
      go_roundw
      case rel => exact ⟨k + 1, by go_num, by omega, (.of (by repeat (first | (with_reducible exact Ext.refl _) | (with_reducible refine Ext.up ?_ _) | (with_reducible refine Ext.alloc ?_ _) | (with_reducible refine Ext.drew ?_) | (with_reducible refine Ext.setRow ?_ (by first | exact LeS.le | exact LeS.add _ | (simp; done) | (simp; omega)) _) | (with_reducible refine Ext.setCell ?_ (by first | exact LeS.le | exact LeS.add _ | (simp; done) | (simp; omega)) _)))), O8.out.lo z.ext.size⟩
      case measure => simp [intOf] <;> omega
    · obtain rfl : k = E.length := by omega
      have hVl := versE_len HW.out E.length
      obtain ⟨pv, cv, rfl, _, _⟩ := (HV.out.sl Ver.enc_length).openc
      generalize versE E E.length = V at *
      have HVs := Lib.hid (HV.out.sl Ver.enc_length); clear HV
      go_wp2_with fail
      go_loopw [13] (fun s13 wr => ∃ (k : Nat), s13 = .int .i64 k ∧ k ≤ E.length ∧ Up z.val wr) (fun s13 _ => E.length - (intOf s13).toNat)
      case atStart => exact ⟨0, rfl, Nat.zero_le _, (.of (by repeat (first | (with_reducible exact Ext.refl _) | (with_reducible refine Ext.up ?_ _) | (with_reducible refine Ext.alloc ?_ _) | (with_reducible refine Ext.drew ?_) | (with_reducible refine Ext.setRow ?_ (by first | exact LeS.le | exact LeS.add _ | (simp; done) | (simp; omega)) _) | (with_reducible refine Ext.setCell ?_ (by first | exact LeS.le | exact LeS.add _ | (simp; done) | (simp; omega)) _))))⟩
      case round =>
        obtain ⟨k, rfl, hk, ⟨z9, rfl⟩⟩ := hrel
        by_cases hlt : k < E.length
        · obtain ⟨x, hxk⟩ := getElem?_some_of_lt hlt
          obtain ⟨b, off, pr, cr, pw, cw, rfl, hb', e0, e1, e2, s1, s2⟩ := HCE.out k x hxk
          obtain ⟨_, _, e9, hrl, hcR⟩ := s1.open
          cases e9
          have HCR := Lib.hid hcR
          have HX := Lib.hid hxk
          have k0 : (0 : Int) ≤ (k : Int) := by omega
          have k1 : (k : Int) < E.length := by omega
          clear hxk s1 s2 e0 e2 hcR
          go_wp2_with fail
          go_loopw [14] (fun s14 wr => ∃ (j : Nat), s14 = .int .i64 j ∧ j ≤ x.r.length ∧ Up z9.val wr) (fun s14 _ => x.r.length - (intOf s14).toNat)
          case atStart => exact ⟨0, rfl, Nat.zero_le _, (.of (by repeat (first | (with_reducible exact Ext.refl _) | (with_reducible refine Ext.up ?_ _) | (with_reducible refine Ext.alloc ?_ _) | (with_reducible refine Ext.drew ?_) | (with_reducible refine Ext.setRow ?_ (by first | exact LeS.le | exact LeS.add _ | (simp; done) | (simp; omega)) _) | (with_reducible refine Ext.setCell ?_ (by first | exact LeS.le | exact LeS.add _ | (simp; done) | (simp; omega)) _))))⟩
          case round =>
            obtain ⟨j, rfl, hj, ⟨z10, rfl⟩⟩ := hrel
            by_cases hjl : j < x.r.length
            · obtain ⟨y, hyj⟩ := getElem?_some_of_lt hjl
              obtain ⟨b2, off2, rfl, hb2, hcc⟩ := HCR.out j y hyj
              have cc0 : z1.val.cell? ⟨b2, off2 + j * 2, none⟩ = some (.int .i64 y.k) := hcc 0 _ rfl
              have cc1 : z1.val.cell? ⟨b2, off2 + j * 2 + 1, none⟩ = some (.int .i64 y.v) := hcc 1 _ rfl
              have j0 : (0 : Int) ≤ (j : Int) := by omega
              have j1 : (j : Int) < x.r.length := by omega
              have krd := fun w h h' => iReadVersion_any s V (.slice p0 s.length c0) (.slice pv V.length cv) y.k (k : Int) w h h'
              rw [HRd.out k x HX.out y (List.mem_of_getElem? hyj)] at krd
              generalize (rdV s V y.k (k : Int)).2 = r2 at *
              clear hcc hyj
              go_wp2_with fail
              refine (krd _ (HS.out.up (by repeat (first | (with_reducible exact Ext.refl _) | (with_reducible refine Ext.up ?_ _) | (with_reducible refine Ext.alloc ?_ _) | (with_reducible refine Ext.drew ?_) | (with_reducible refine Ext.setRow ?_ (by first | exact LeS.le | exact LeS.add _ | (simp; done) | (simp; omega)) _) | (with_reducible refine Ext.setCell ?_ (by first | exact LeS.le | exact LeS.add _ | (simp; done) | (simp; omega)) _)))) (HVs.out.up (by repeat (first | (with_reducible exact Ext.refl _) | (with_reducible refine Ext.up ?_ _) | (with_reducible refine Ext.alloc ?_ _) | (with_reducible refine Ext.drew ?_) | (with_reducible refine Ext.setRow ?_ (by first | exact LeS.le | exact LeS.add _ | (simp; done) | (simp; omega)) _) | (with_reducible refine Ext.setCell ?_ (by first | exact LeS.le | exact LeS.add _ | (simp; done) | (simp; omega)) _))))).mono ?_; rintro e w' ⟨rfl, ⟨z11, rfl⟩⟩
              go_wp2_with fail
              go_roundw
              case rel => exact ⟨j + 1, by go_num, by omega, (.of (by repeat (first | (with_reducible exact Ext.refl _) | (with_reducible refine Ext.up ?_ _) | (with_reducible refine Ext.alloc ?_ _) | (with_reducible refine Ext.drew ?_) | (with_reducible refine Ext.setRow ?_ (by first | exact LeS.le | exact LeS.add _ | (simp; done) | (simp; omega)) _) | (with_reducible refine Ext.setCell ?_ (by first | exact LeS.le | exact LeS.add _ | (simp; done) | (simp; omega)) _))))⟩
              case measure => simp [intOf] <;> omega
            · go_wp2_with fail
              go_roundw
              case rel => exact ⟨k + 1, by go_num, by omega, (.of (by repeat (first | (with_reducible exact Ext.refl _) | (with_reducible refine Ext.up ?_ _) | (with_reducible refine Ext.alloc ?_ _) | (with_reducible refine Ext.drew ?_) | (with_reducible refine Ext.setRow ?_ (by first | exact LeS.le | exact LeS.add _ | (simp; done) | (simp; omega)) _) | (with_reducible refine Ext.setCell ?_ (by first | exact LeS.le | exact LeS.add _ | (simp; done) | (simp; omega)) _))))⟩
              case measure => simp [intOf] <;> omega
        · have kla := fun w h h' => iLastVersions_any s V (.slice p0 s.length c0) (.slice pv V.length cv) w h h'
          rw [HLa.out] at kla
          go_wp2_with fail
          refine (kla _ (HS.out.up (by repeat (first | (with_reducible exact Ext.refl _) | (with_reducible refine Ext.up ?_ _) | (with_reducible refine Ext.alloc ?_ _) | (with_reducible refine Ext.drew ?_) | (with_reducible refine Ext.setRow ?_ (by first | exact LeS.le | exact LeS.add _ | (simp; done) | (simp; omega)) _) | (with_reducible refine Ext.setCell ?_ (by first | exact LeS.le | exact LeS.add _ | (simp; done) | (simp; omega)) _)))) (HVs.out.up (by repeat (first | (with_reducible exact Ext.refl _) | (with_reducible refine Ext.up ?_ _) | (with_reducible refine Ext.alloc ?_ _) | (with_reducible refine Ext.drew ?_) | (with_reducible refine Ext.setRow ?_ (by first | exact LeS.le | exact LeS.add _ | (simp; done) | (simp; omega)) _) | (with_reducible refine Ext.setCell ?_ (by first | exact LeS.le | exact LeS.add _ | (simp; done) | (simp; omega)) _))))).mono ?_; rintro e w' ⟨v12, rfl, ⟨z12, rfl⟩, o12⟩
          have O12 := Lib.hid (o12.sl Ent.enc_length); clear o12
          go_wp2_with fail
          refine (sameStore_same S _ _ _ (O12.out.up (by repeat (first | (with_reducible exact Ext.refl _) | (with_reducible refine Ext.up ?_ _) | (with_reducible refine Ext.alloc ?_ _) | (with_reducible refine Ext.drew ?_) | (with_reducible refine Ext.setRow ?_ (by first | exact LeS.le | exact LeS.add _ | (simp; done) | (simp; omega)) _) | (with_reducible refine Ext.setCell ?_ (by first | exact LeS.le | exact LeS.add _ | (simp; done) | (simp; omega)) _)))) (O1.out.up (by repeat (first | (with_reducible exact Ext.refl _) | (with_reducible refine Ext.up ?_ _) | (with_reducible refine Ext.alloc ?_ _) | (with_reducible refine Ext.drew ?_) | (with_reducible refine Ext.setRow ?_ (by first | exact LeS.le | exact LeS.add _ | (simp; done) | (simp; omega)) _) | (with_reducible refine Ext.setCell ?_ (by first | exact LeS.le | exact LeS.add _ | (simp; done) | (simp; omega)) _))))).mono ?_; rintro e w' ⟨rfl, ⟨z13, rfl⟩⟩
          go_wp2_with fail
          go_ret
          exact ⟨rfl, (.of (by repeat (first | (with_reducible exact Ext.refl _) | (with_reducible refine Ext.up ?_ _) | (with_reducible refine Ext.alloc ?_ _) | (with_reducible refine Ext.drew ?_) | (with_reducible refine Ext.setRow ?_ (by first | exact LeS.le | exact LeS.add _ | (simp; done) | (simp; omega)) _) | (with_reducible refine Ext.setCell ?_ (by first | exact LeS.le | exact LeS.add _ | (simp; done) | (simp; omega)) _))))⟩
end Go.Proofs.Ytkboefmkfpnpjaa
