/- The law FnSerialVersions's walk. Plain ground: an effect in a box of its own beside the reader, while it is drawn. -/
import Derived.Test.YtkboefmkfpnpjaaGCflTop32
import Derived.Test.YtkboefmkfpnpjaaGCflTop28
import Derived.Test.YtkboefmkfpnpjaaGCflTop12
set_option linter.unusedSimpArgs false
set_option linter.unusedVariables false
namespace Go.Proofs.Ytkboefmkfpnpjaa
open Go Go.RowKit Go.Proofs

theorem putR_versE {E : List Eff} (h : ∀ e ∈ E, entsOk 0 e.w = true) {k : Nat} {e : Eff} (hk : k < 10) (he : E[k]? = some e) : putOk (versE E k) k e.w = true ∧ putR (versE E k) k e.w = versE E (k + 1) := by
  have h1 := versE_putOk h hk he
  exact ⟨h1, by rw [putR_yes h1, versE_next he]⟩
set_option maxRecDepth 100000 in
set_option maxHeartbeats 4000000 in
theorem FnSerialVersions_any (bs : List Int) (v : Value) (w : World) (h : SL (RF encU) 1 w v bs) (hb : ∀ b ∈ bs, 0 ≤ b ∧ b ≤ 255) :
    Calls Try.prog 6 #[v] w fun e w' => e = .returned (.bool true) ∧ Up w w' := by
  have H := Lib.hid h
  obtain ⟨p, c, rfl, _, _⟩ := h.openc
  clear h
  by_cases hl : 1048576 < bs.length
  · go_enter Try.func6, Try.ntmps6
    go_wp2_with fail
    go_ret
    exact ⟨rfl, (.of (by repeat (first | (with_reducible exact Ext.refl _) | (with_reducible refine Ext.up ?_ _) | (with_reducible refine Ext.alloc ?_ _) | (with_reducible refine Ext.drew ?_) | (with_reducible refine Ext.setRow ?_ (by first | exact LeS.le | exact LeS.add _ | (simp; done) | (simp; omega)) _) | (with_reducible refine Ext.setCell ?_ (by first | exact LeS.le | exact LeS.add _ | (simp; done) | (simp; omega)) _))))⟩
  go_enter Try.func6, Try.ntmps6
  go_wp2_with fail
  refine (drawRunSerial_any bs _ _ (H.out.up (by repeat (first | (with_reducible exact Ext.refl _) | (with_reducible refine Ext.up ?_ _) | (with_reducible refine Ext.alloc ?_ _) | (with_reducible refine Ext.drew ?_) | (with_reducible refine Ext.setRow ?_ (by first | exact LeS.le | exact LeS.add _ | (simp; done) | (simp; omega)) _) | (with_reducible refine Ext.setCell ?_ (by first | exact LeS.le | exact LeS.add _ | (simp; done) | (simp; omega)) _)))) hb).mono ?_; rintro e w' ⟨vs, vl, s, l, rfl, ⟨z0, rfl⟩, _, _, os, ol⟩
  obtain ⟨p0, c0, rfl, _, _⟩ := os.openc
  obtain ⟨p1, c1, rfl, _, _⟩ := ol.openc
  have HS := Lib.hid os; have HL := Lib.hid ol
  clear os ol
  have kst := fun w h => sStoreValid_any s (.slice p0 s.length c0) w h
  have kac := fun w h => sActionsValid_any l (.slice p1 l.length c1) w h
  have hno : srOk s l = false → _ := fun h => sr_no h
  have hyes : srOk s l = true → _ := fun h => sr_yes h
  have hro : srOk s l = (entsOk 1 s && actsOk l) := rfl
  have hW := Lib.hid (fun h1 h2 => serOkW (s := s) (l := l) h1 (fun x hx => by obtain ⟨i, hi⟩ := List.getElem?_of_mem hx; exact actsOk_at h2 hi))
  have hRd := Lib.hid (fun h1 h2 => fun k e he y hy => serV_read (s := s) (l := l) h1 (fun x hx => by obtain ⟨i, hi⟩ := List.getElem?_of_mem hx; exact actsOk_at h2 hi) (actsOk_len h2) (k := k) (e := e) he (y := y) hy)
  have hLa := Lib.hid (fun h1 h2 => serV_last (s := s) (l := l) h1 (fun x hx => by obtain ⟨i, hi⟩ := List.getElem?_of_mem hx; exact actsOk_at h2 hi) (actsOk_len h2))
  have hEl := Lib.hid (show (runAll (valsOf s) l).2.length = l.length from runAll_len _ _)
  go_wp2_with fail
  refine (iRunSerial_any s l _ _ _ (HS.out.up (by repeat (first | (with_reducible exact Ext.refl _) | (with_reducible refine Ext.up ?_ _) | (with_reducible refine Ext.alloc ?_ _) | (with_reducible refine Ext.drew ?_) | (with_reducible refine Ext.setRow ?_ (by first | exact LeS.le | exact LeS.add _ | (simp; done) | (simp; omega)) _) | (with_reducible refine Ext.setCell ?_ (by first | exact LeS.le | exact LeS.add _ | (simp; done) | (simp; omega)) _)))) (HL.out.up (by repeat (first | (with_reducible exact Ext.refl _) | (with_reducible refine Ext.up ?_ _) | (with_reducible refine Ext.alloc ?_ _) | (with_reducible refine Ext.drew ?_) | (with_reducible refine Ext.setRow ?_ (by first | exact LeS.le | exact LeS.add _ | (simp; done) | (simp; omega)) _) | (with_reducible refine Ext.setCell ?_ (by first | exact LeS.le | exact LeS.add _ | (simp; done) | (simp; omega)) _))))).mono ?_; rintro e w' ⟨v1, v2, rfl, ⟨z1, rfl⟩, o1, se⟩
  obtain ⟨q1, d1, rfl, _, _⟩ := o1.openc
  obtain ⟨q2, d2, rfl, _, _, hcE⟩ := se.open
  have O1 := Lib.hid o1; have E1 := Lib.hid se; have HCE := Lib.hid hcE
  clear o1 se hcE
  go_wp2_with fail
  refine (sRunSerial_any s l _ _ _ (HS.out.up (by repeat (first | (with_reducible exact Ext.refl _) | (with_reducible refine Ext.up ?_ _) | (with_reducible refine Ext.alloc ?_ _) | (with_reducible refine Ext.drew ?_) | (with_reducible refine Ext.setRow ?_ (by first | exact LeS.le | exact LeS.add _ | (simp; done) | (simp; omega)) _) | (with_reducible refine Ext.setCell ?_ (by first | exact LeS.le | exact LeS.add _ | (simp; done) | (simp; omega)) _)))) (HL.out.up (by repeat (first | (with_reducible exact Ext.refl _) | (with_reducible refine Ext.up ?_ _) | (with_reducible refine Ext.alloc ?_ _) | (with_reducible refine Ext.drew ?_) | (with_reducible refine Ext.setRow ?_ (by first | exact LeS.le | exact LeS.add _ | (simp; done) | (simp; omega)) _) | (with_reducible refine Ext.setCell ?_ (by first | exact LeS.le | exact LeS.add _ | (simp; done) | (simp; omega)) _))))).mono ?_; rintro e w' ⟨v3, v4, rfl, ⟨z2, rfl⟩, o3, se⟩
  have O3 := Lib.hid o3; have E3 := Lib.hid se
  clear o3 se
  generalize srS s l = S at *
  generalize srE s l = E at *
  go_wp2_with fail
  refine (sameStore_same S _ _ _ (O1.out.up (by repeat (first | (with_reducible exact Ext.refl _) | (with_reducible refine Ext.up ?_ _) | (with_reducible refine Ext.alloc ?_ _) | (with_reducible refine Ext.drew ?_) | (with_reducible refine Ext.setRow ?_ (by first | exact LeS.le | exact LeS.add _ | (simp; done) | (simp; omega)) _) | (with_reducible refine Ext.setCell ?_ (by first | exact LeS.le | exact LeS.add _ | (simp; done) | (simp; omega)) _)))) (O3.out.up (by repeat (first | (with_reducible exact Ext.refl _) | (with_reducible refine Ext.up ?_ _) | (with_reducible refine Ext.alloc ?_ _) | (with_reducible refine Ext.drew ?_) | (with_reducible refine Ext.setRow ?_ (by first | exact LeS.le | exact LeS.add _ | (simp; done) | (simp; omega)) _) | (with_reducible refine Ext.setCell ?_ (by first | exact LeS.le | exact LeS.add _ | (simp; done) | (simp; omega)) _))))).mono ?_; rintro e w' ⟨rfl, ⟨z3, rfl⟩⟩
  go_wp2_with fail
  refine (sameEffects_same E _ _ _ (E1.out.up (by repeat (first | (with_reducible exact Ext.refl _) | (with_reducible refine Ext.up ?_ _) | (with_reducible refine Ext.alloc ?_ _) | (with_reducible refine Ext.drew ?_) | (with_reducible refine Ext.setRow ?_ (by first | exact LeS.le | exact LeS.add _ | (simp; done) | (simp; omega)) _) | (with_reducible refine Ext.setCell ?_ (by first | exact LeS.le | exact LeS.add _ | (simp; done) | (simp; omega)) _)))) (E3.out.up (by repeat (first | (with_reducible exact Ext.refl _) | (with_reducible refine Ext.up ?_ _) | (with_reducible refine Ext.alloc ?_ _) | (with_reducible refine Ext.drew ?_) | (with_reducible refine Ext.setRow ?_ (by first | exact LeS.le | exact LeS.add _ | (simp; done) | (simp; omega)) _) | (with_reducible refine Ext.setCell ?_ (by first | exact LeS.le | exact LeS.add _ | (simp; done) | (simp; omega)) _))))).mono ?_; rintro e w' ⟨rfl, ⟨z4, rfl⟩⟩
  rcases guards2 (entsOk 1 s) (actsOk l) with h1 | ⟨h1, h2⟩ | ⟨h1, h2⟩
  · simp only [h1] at kst
    clear hno hyes hro h1 kac hW hRd hLa hEl HCE
    go_wp2_with fail
    refine (kst _ (HS.out.up (by repeat (first | (with_reducible exact Ext.refl _) | (with_reducible refine Ext.up ?_ _) | (with_reducible refine Ext.alloc ?_ _) | (with_reducible refine Ext.drew ?_) | (with_reducible refine Ext.setRow ?_ (by first | exact LeS.le | exact LeS.add _ | (simp; done) | (simp; omega)) _) | (with_reducible refine Ext.setCell ?_ (by first | exact LeS.le | exact LeS.add _ | (simp; done) | (simp; omega)) _))))).mono ?_; rintro e w' ⟨rfl, ⟨z5, rfl⟩⟩
    go_wp2_with fail
    refine (alive_any _).mono ?_; rintro e w' ⟨rfl, ⟨z6, rfl⟩⟩
    go_wp2_with fail
    go_ret
    exact ⟨rfl, (.of (by repeat (first | (with_reducible exact Ext.refl _) | (with_reducible refine Ext.up ?_ _) | (with_reducible refine Ext.alloc ?_ _) | (with_reducible refine Ext.drew ?_) | (with_reducible refine Ext.setRow ?_ (by first | exact LeS.le | exact LeS.add _ | (simp; done) | (simp; omega)) _) | (with_reducible refine Ext.setCell ?_ (by first | exact LeS.le | exact LeS.add _ | (simp; done) | (simp; omega)) _))))⟩
  · simp only [h1] at kst; simp only [h2] at kac
    clear hno hyes hro h1 h2 hW hRd hLa hEl HCE
    go_wp2_with fail
    refine (kst _ (HS.out.up (by repeat (first | (with_reducible exact Ext.refl _) | (with_reducible refine Ext.up ?_ _) | (with_reducible refine Ext.alloc ?_ _) | (with_reducible refine Ext.drew ?_) | (with_reducible refine Ext.setRow ?_ (by first | exact LeS.le | exact LeS.add _ | (simp; done) | (simp; omega)) _) | (with_reducible refine Ext.setCell ?_ (by first | exact LeS.le | exact LeS.add _ | (simp; done) | (simp; omega)) _))))).mono ?_; rintro e w' ⟨rfl, ⟨z5, rfl⟩⟩
    go_wp2_with fail
    refine (kac _ (HL.out.up (by repeat (first | (with_reducible exact Ext.refl _) | (with_reducible refine Ext.up ?_ _) | (with_reducible refine Ext.alloc ?_ _) | (with_reducible refine Ext.drew ?_) | (with_reducible refine Ext.setRow ?_ (by first | exact LeS.le | exact LeS.add _ | (simp; done) | (simp; omega)) _) | (with_reducible refine Ext.setCell ?_ (by first | exact LeS.le | exact LeS.add _ | (simp; done) | (simp; omega)) _))))).mono ?_; rintro e w' ⟨rfl, ⟨z7, rfl⟩⟩
    go_wp2_with fail
    refine (alive_any _).mono ?_; rintro e w' ⟨rfl, ⟨z6, rfl⟩⟩
    go_wp2_with fail
    go_ret
    exact ⟨rfl, (.of (by repeat (first | (with_reducible exact Ext.refl _) | (with_reducible refine Ext.up ?_ _) | (with_reducible refine Ext.alloc ?_ _) | (with_reducible refine Ext.drew ?_) | (with_reducible refine Ext.setRow ?_ (by first | exact LeS.le | exact LeS.add _ | (simp; done) | (simp; omega)) _) | (with_reducible refine Ext.setCell ?_ (by first | exact LeS.le | exact LeS.add _ | (simp; done) | (simp; omega)) _))))⟩
  obtain ⟨y1, y2⟩ := hyes (by rw [hro, h1, h2]; rfl)
  have hl10 := actsOk_len h2
  have HW := hW.out h1 h2
  have HRd := hRd.out h1 h2
  have HLa := hLa.out h1 h2
  have hEl := hEl.out
  simp only [h1] at kst; simp only [h2] at kac
  clear hno hyes hro h1 h2 hW hRd hLa E3 O3
  rw [← y2] at HW HRd HLa hEl
  rw [← y1, ← hEl] at HLa
  rw [← hEl] at HRd
  clear y1 y2
  have HW := Lib.hid HW; have HRd := Lib.hid HRd; have HLa := Lib.hid HLa
  have hE10 : E.length ≤ 10 := by omega
  clear hEl
  go_wp2_with fail
  refine (kst _ (HS.out.up (by repeat (first | (with_reducible exact Ext.refl _) | (with_reducible refine Ext.up ?_ _) | (with_reducible refine Ext.alloc ?_ _) | (with_reducible refine Ext.drew ?_) | (with_reducible refine Ext.setRow ?_ (by first | exact LeS.le | exact LeS.add _ | (simp; done) | (simp; omega)) _) | (with_reducible refine Ext.setCell ?_ (by first | exact LeS.le | exact LeS.add _ | (simp; done) | (simp; omega)) _))))).mono ?_; rintro e w' ⟨rfl, ⟨z5, rfl⟩⟩
  go_wp2_with fail
  refine (kac _ (HL.out.up (by repeat (first | (with_reducible exact Ext.refl _) | (with_reducible refine Ext.up ?_ _) | (with_reducible refine Ext.alloc ?_ _) | (with_reducible refine Ext.drew ?_) | (with_reducible refine Ext.setRow ?_ (by first | exact LeS.le | exact LeS.add _ | (simp; done) | (simp; omega)) _) | (with_reducible refine Ext.setCell ?_ (by first | exact LeS.le | exact LeS.add _ | (simp; done) | (simp; omega)) _))))).mono ?_; rintro e w' ⟨rfl, ⟨z7, rfl⟩⟩
  clear kst kac
  go_wp2_with fail
  go_loopw [9, 10] (fun s9 s10 wr => ∃ (k : Nat), s10 = .int .i64 k ∧ k ≤ E.length ∧ Up z7.val wr ∧ Own Ver.enc 88 3 z7.val.heap.size wr s9 (versE E k)) (fun _ s10 _ => E.length - (intOf s10).toNat)
  case atStart => exact ⟨0, rfl, Nat.zero_le _, (.of (by repeat (first | (with_reducible exact Ext.refl _) | (with_reducible refine Ext.up ?_ _) | (with_reducible refine Ext.alloc ?_ _) | (with_reducible refine Ext.drew ?_) | (with_reducible refine Ext.setRow ?_ (by first | exact LeS.le | exact LeS.add _ | (simp; done) | (simp; omega)) _) | (with_reducible refine Ext.setCell ?_ (by first | exact LeS.le | exact LeS.add _ | (simp; done) | (simp; omega)) _)))), Own.lit rfl (Nat.le_refl _) rfl rfl Ver.enc_length (by simp [versE])⟩
  case round =>
    obtain ⟨k, rfl, hk, ⟨z, rfl⟩, hown⟩ := hrel
    have HV := Lib.hid hown; clear hown
    by_cases hlt : k < E.length
    · obtain ⟨x, hxk⟩ := getElem?_some_of_lt hlt
      obtain ⟨b, off, pr, cr, pw, cw, rfl, hb', e0, e1, e2, s1, s2⟩ := HCE.out k x hxk
      obtain ⟨h3, h4⟩ := putR_versE HW.out (by omega) hxk
      have hVl := versE_len HW.out k
      have hxl := entsOk_len (HW.out x (List.mem_of_getElem? hxk))
      have S2 := Lib.hid s2
      have k0 : (0 : Int) ≤ (k : Int) := by omega
      have k1 : (k : Int) < E.length := by omega
      have kput := fun v w h h' => iPutVersions_any (versE E k) x.w v (.slice pw x.w.length cw) (k : Int) w h h' (by omega) (by omega)
      rw [h3, h4] at kput
      clear hxk s1 s2 h3 h4 e0 e1
      go_wp2_with fail
      refine (kput _ _ ((HV.out.sl Ver.enc_length).up (by repeat (first | (with_reducible exact Ext.refl _) | (with_reducible refine Ext.up ?_ _) | (with_reducible refine Ext.alloc ?_ _) | (with_reducible refine Ext.drew ?_) | (with_reducible refine Ext.setRow ?_ (by first | exact LeS.le | exact LeS.add _ | (simp; done) | (simp; omega)) _) | (with_reducible refine Ext.setCell ?_ (by first | exact LeS.le | exact LeS.add _ | (simp; done) | (simp; omega)) _)))) (S2.out.up (by repeat (first | (with_reducible exact Ext.refl _) | (with_reducible refine Ext.up ?_ _) | (with_reducible refine Ext.alloc ?_ _) | (with_reducible refine Ext.drew ?_) | (with_reducible refine Ext.setRow ?_ (by first | exact LeS.le | exact LeS.add _ | (simp; done) | (simp; omega)) _) | (with_reducible refine Ext.setCell ?_ (by first | exact LeS.le | exact LeS.add _ | (simp; done) | (simp; omega)) _))))).mono ?_; rintro e w' ⟨v8, rfl, ⟨z8, rfl⟩, o8⟩
      have O8 := Lib.hid o8; clear o8 kput
      go_wp2_with fail
      go_roundw
      case rel => exact ⟨k + 1, by go_num, by omega, (.of (by repeat (first | (with_reducible exact Ext.refl _) | (with_reducible refine Ext.up ?_ _) | (with_reducible refine Ext.alloc ?_ _) | (with_reducible refine Ext.drew ?_) | (with_reducible refine Ext.setRow ?_ (by first | exact LeS.le | exact LeS.add _ | (simp; done) | (simp; omega)) _) | (with_reducible refine Ext.setCell ?_ (by first | exact LeS.le | exact LeS.add _ | (simp; done) | (simp; omega)) _)))), O8.out.lo z.ext.size⟩
      case measure => simp [intOf] <;> omega
    · obtain rfl : k = E.length := by omega
      have hVl := versE_len HW.out E.length
      obtain ⟨pv, cv, rfl, _, _⟩ := (HV.out.sl Ver.enc_length).openc
      generalize versE E E.length = V at *
      have HVs := Lib.hid (HV.out.sl Ver.enc_length); clear HV
      go_wp2_with fail
      go_loopw [13] (fun s13 wr => ∃ (k : Nat), s13 = .int .i64 k ∧ k ≤ E.length ∧ Up z.val wr) (fun s13 _ => E.length - (intOf s13).toNat)
      case atStart => exact ⟨0, rfl, Nat.zero_le _, (.of (by repeat (first | (with_reducible exact Ext.refl _) | (with_reducible refine Ext.up ?_ _) | (with_reducible refine Ext.alloc ?_ _) | (with_reducible refine Ext.drew ?_) | (with_reducible refine Ext.setRow ?_ (by first | exact LeS.le | exact LeS.add _ | (simp; done) | (simp; omega)) _) | (with_reducible refine Ext.setCell ?_ (by first | exact LeS.le | exact LeS.add _ | (simp; done) | (simp; omega)) _))))⟩
      case round =>
        obtain ⟨k, rfl, hk, ⟨z9, rfl⟩⟩ := hrel
        by_cases hlt : k < E.length
        · obtain ⟨x, hxk⟩ := getElem?_some_of_lt hlt
          obtain ⟨b, off, pr, cr, pw, cw, rfl, hb', e0, e1, e2, s1, s2⟩ := HCE.out k x hxk
          obtain ⟨_, _, e9, hrl, hcR⟩ := s1.open
          cases e9
          have HCR := Lib.hid hcR
          have HX := Lib.hid hxk
          have k0 : (0 : Int) ≤ (k : Int) := by omega
          have k1 : (k : Int) < E.length := by omega
          clear hxk s1 s2 e0 e2 hcR
          go_wp2_with fail
          go_loopw [14] (fun s14 wr => ∃ (j : Nat), s14 = .int .i64 j ∧ j ≤ x.r.length ∧ Up z9.val wr) (fun s14 _ => x.r.length - (intOf s14).toNat)
          case atStart => exact ⟨0, rfl, Nat.zero_le _, (.of (by repeat (first | (with_reducible exact Ext.refl _) | (with_reducible refine Ext.up ?_ _) | (with_reducible refine Ext.alloc ?_ _) | (with_reducible refine Ext.drew ?_) | (with_reducible refine Ext.setRow ?_ (by first | exact LeS.le | exact LeS.add _ | (simp; done) | (simp; omega)) _) | (with_reducible refine Ext.setCell ?_ (by first | exact LeS.le | exact LeS.add _ | (simp; done) | (simp; omega)) _))))⟩
          case round =>
            obtain ⟨j, rfl, hj, ⟨z10, rfl⟩⟩ := hrel
            by_cases hjl : j < x.r.length
            · obtain ⟨y, hyj⟩ := getElem?_some_of_lt hjl
              obtain ⟨b2, off2, rfl, hb2, hcc⟩ := HCR.out j y hyj
              have cc0 : z1.val.cell? ⟨b2, off2 + j * 2, none⟩ = some (.int .i64 y.k) := hcc 0 _ rfl
              have cc1 : z1.val.cell? ⟨b2, off2 + j * 2 + 1, none⟩ = some (.int .i64 y.v) := hcc 1 _ rfl
              have j0 : (0 : Int) ≤ (j : Int) := by omega
              have j1 : (j : Int) < x.r.length := by omega
              have krd := fun w h h' => iReadVersion_any s V (.slice p0 s.length c0) (.slice pv V.length cv) y.k (k : Int) w h h'
              rw [HRd.out k x HX.out y (List.mem_of_getElem? hyj)] at krd
              generalize (rdV s V y.k (k : Int)).2 = r2 at *
              clear hcc hyj
              go_wp2_with fail
              refine (krd _ (HS.out.up (by repeat (first | (with_reducible exact Ext.refl _) | (with_reducible refine Ext.up ?_ _) | (with_reducible refine Ext.alloc ?_ _) | (with_reducible refine Ext.drew ?_) | (with_reducible refine Ext.setRow ?_ (by first | exact LeS.le | exact LeS.add _ | (simp; done) | (simp; omega)) _) | (with_reducible refine Ext.setCell ?_ (by first | exact LeS.le | exact LeS.add _ | (simp; done) | (simp; omega)) _)))) (HVs.out.up (by repeat (first | (with_reducible exact Ext.refl _) | (with_reducible refine Ext.up ?_ _) | (with_reducible refine Ext.alloc ?_ _) | (with_reducible refine Ext.drew ?_) | (with_reducible refine Ext.setRow ?_ (by first | exact LeS.le | exact LeS.add _ | (simp; done) | (simp; omega)) _) | (with_reducible refine Ext.setCell ?_ (by first | exact LeS.le | exact LeS.add _ | (simp; done) | (simp; omega)) _))))).mono ?_; rintro e w' ⟨rfl, ⟨z11, rfl⟩⟩
              go_wp2_with fail
              go_roundw
              case rel => exact ⟨j + 1, by go_num, by omega, (.of (by repeat (first | (with_reducible exact Ext.refl _) | (with_reducible refine Ext.up ?_ _) | (with_reducible refine Ext.alloc ?_ _) | (with_reducible refine Ext.drew ?_) | (with_reducible refine Ext.setRow ?_ (by first | exact LeS.le | exact LeS.add _ | (simp; done) | (simp; omega)) _) | (with_reducible refine Ext.setCell ?_ (by first | exact LeS.le | exact LeS.add _ | (simp; done) | (simp; omega)) _))))⟩
              case measure => simp [intOf] <;> omega
            · go_wp2_with fail
              go_roundw
              case rel => exact ⟨k + 1, by go_num, by omega, (.of (by repeat (first | (with_reducible exact Ext.refl _) | (with_reducible refine Ext.up ?_ _) | (with_reducible refine Ext.alloc ?_ _) | (with_reducible refine Ext.drew ?_) | (with_reducible refine Ext.setRow ?_ (by first | exact LeS.le | exact LeS.add _ | (simp; done) | (simp; omega)) _) | (with_reducible refine Ext.setCell ?_ (by first | exact LeS.le | exact LeS.add _ | (simp; done) | (simp; omega)) _))))⟩
              case measure => simp [intOf] <;> omega
        · have kla := fun w h h' => iLastVersions_any s V (.slice p0 s.length c0) (.slice pv V.length cv) w h h'
          rw [HLa.out] at kla
          go_wp2_with fail
          refine (kla _ (HS.out.up (by repeat (first | (with_reducible exact Ext.refl _) | (with_reducible refine Ext.up ?_ _) | (with_reducible refine Ext.alloc ?_ _) | (with_reducible refine Ext.drew ?_) | (with_reducible refine Ext.setRow ?_ (by first | exact LeS.le | exact LeS.add _ | (simp; done) | (simp; omega)) _) | (with_reducible refine Ext.setCell ?_ (by first | exact LeS.le | exact LeS.add _ | (simp; done) | (simp; omega)) _)))) (HVs.out.up (by repeat (first | (with_reducible exact Ext.refl _) | (with_reducible refine Ext.up ?_ _) | (with_reducible refine Ext.alloc ?_ _) | (with_reducible refine Ext.drew ?_) | (with_reducible refine Ext.setRow ?_ (by first | exact LeS.le | exact LeS.add _ | (simp; done) | (simp; omega)) _) | (with_reducible refine Ext.setCell ?_ (by first | exact LeS.le | exact LeS.add _ | (simp; done) | (simp; omega)) _))))).mono ?_; rintro e w' ⟨v12, rfl, ⟨z12, rfl⟩, o12⟩
          have O12 := Lib.hid (o12.sl Ent.enc_length); clear o12
          go_wp2_with fail
          refine (sameStore_same S _ _ _ (O12.out.up (by repeat (first | (with_reducible exact Ext.refl _) | (with_reducible refine Ext.up ?_ _) | (with_reducible refine Ext.alloc ?_ _) | (with_reducible refine Ext.drew ?_) | (with_reducible refine Ext.setRow ?_ (by first | exact LeS.le | exact LeS.add _ | (simp; done) | (simp; omega)) _) | (with_reducible refine Ext.setCell ?_ (by first | exact LeS.le | exact LeS.add _ | (simp; done) | (simp; omega)) _)))) (O1.out.up (by repeat (first | (with_reducible exact Ext.refl _) | (with_reducible refine Ext.up ?_ _) | (with_reducible refine Ext.alloc ?_ _) | (with_reducible refine Ext.drew ?_) | (with_reducible refine Ext.setRow ?_ (by first | exact LeS.le | exact LeS.add _ | (simp; done) | (simp; omega)) _) | (with_reducible refine Ext.setCell ?_ (by first | exact LeS.le | exact LeS.add _ | (simp; done) | (simp; omega)) _))))).mono ?_; rintro e w' ⟨rfl, ⟨z13, rfl⟩⟩
          go_wp2_with fail
          go_ret
          exact ⟨rfl, (.of (by repeat (first | (with_reducible exact Ext.refl _) | (with_reducible refine Ext.up ?_ _) | (with_reducible refine Ext.alloc ?_ _) | (with_reducible refine Ext.drew ?_) | (with_reducible refine Ext.setRow ?_ (by first | exact LeS.le | exact LeS.add _ | (simp; done) | (simp; omega)) _) | (with_reducible refine Ext.setCell ?_ (by first | exact LeS.le | exact LeS.add _ | (simp; done) | (simp; omega)) _))))⟩
end Go.Proofs.Ytkboefmkfpnpjaa
namespace Go.Proofs.Ytkboefmkfpnpjaa
open Go Go.RowKit Go.Proofs

structure FX (T eE rb G lo : Nat) (w wr : World) (d : Bool) (vr vw : Value) (r u : List Ent) : Prop where
  gb : w.grownBy wr (some rb)
  box : wr.heap[G]? = some (.cells #[.bool d, vr, vw] T (0, 0))
  res : wr.heap[w.heap.size]? = some (.cells #[.bool false, .slice none 0 0, .slice none 0 0] T (0, 0))
  orr : Own Ent.enc eE 2 lo wr vr r
  oww : Own Ent.enc eE 2 lo wr vw u
  ap : Apart vr vw
  offr : vr.ownBlock ≠ some G
  offw : vw.ownBlock ≠ some G
  hrb : rb < w.heap.size
  hG : w.heap.size < G
  hlo : w.heap.size < lo
section
variable {T eE rb G lo : Nat} {w wr w9 : World} {d : Bool} {vr vw v9 : Value} {r u u9 : List Ent}
theorem FX.lt (h : FX T eE rb G lo w wr d vr vw r u) : G < wr.heap.size := (Array.getElem?_eq_some_iff.1 h.box).1
theorem FX.upR (h : FX T eE rb G lo w wr d vr vw r u) (z : ExtR rb wr) : FX T eE rb G lo w z.val d vr vw r u := by
  have h1 := h.hrb; have h2 := h.hG; have h3 := h.hlo
  exact ⟨grownBy_trans h.gb z.grown, (z.block h.lt (by omega)).trans h.box, (z.block (Array.getElem?_eq_some_iff.1 h.res).1 (by omega)).trans h.res, h.orr.upR (by omega) z, h.oww.upR (by omega) z, h.ap, h.offr, h.offw, h1, h2, h3⟩
theorem FX.up (h : FX T eE rb G lo w wr d vr vw r u) (hE : Ext wr w9) : FX T eE rb G lo w w9 d vr vw r u :=
  ⟨grownBy_trans h.gb (grownBy_ext hE), (hE.block h.lt).trans h.box, (hE.block (Array.getElem?_eq_some_iff.1 h.res).1).trans h.res, h.orr.up hE, h.oww.up hE, h.ap, h.offr, h.offw, h.hrb, h.hG, h.hlo⟩
theorem FX.alloc (h : FX T eE rb G lo w wr d vr vw r u) (o : Obj) : FX T eE rb G lo w (wr.alloc o) d vr vw r u := h.up ((Ext.refl wr).alloc o)
theorem FX.drew (h : FX T eE rb G lo w wr d vr vw r u) : FX T eE rb G lo w wr.drew d vr vw r u := h.up (Ext.refl wr).drew
theorem own_ne {e sz : Nat} {α : Type} {enc : α → List Value} {l : List α} {v : Value} {n : Nat} (h : Own enc e sz lo wr v l) (hn : n < lo) : some n ≠ v.ownBlock := by
  intro e
  have := (World.ownsRow.lt h n e.symm).1
  omega
theorem FX.kept (h : FX T eE rb G lo w wr d vr vw r u) {v : Value} {l : List Ent} (ho : Own Ent.enc eE 2 lo wr v l) (hv : v.ownBlock ≠ some G) (g9 : wr.grownBy w9 v.ownBlock) :
    w.grownBy w9 (some rb) ∧ w9.heap[G]? = some (.cells #[.bool d, vr, vw] T (0, 0)) ∧ w9.heap[w.heap.size]? = some (.cells #[.bool false, .slice none 0 0, .slice none 0 0] T (0, 0)) := by
  have h1 := h.hrb; have h2 := h.hG; have h3 := h.hlo
  refine ⟨⟨g9.os.trans h.gb.os, g9.tape.trans h.gb.tape, g9.output.trans h.gb.output, Nat.le_trans h.gb.size g9.size, fun n hn hne => ?_⟩, ?_, ?_⟩
  · exact (g9.block n (Nat.lt_of_lt_of_le hn h.gb.size) (own_ne ho (by omega))).trans (h.gb.block n hn hne)
  · exact (g9.block G h.lt (fun e => hv e.symm)).trans h.box
  · exact (g9.block _ (Array.getElem?_eq_some_iff.1 h.res).1 (own_ne ho (by omega))).trans h.res
theorem FX.addW (h : FX T eE rb G lo w wr d vr vw r u) (g9 : wr.grownBy w9 vw.ownBlock) (o9 : Own Ent.enc eE 2 lo w9 v9 u9) (b9 : v9.ownBlock = vw.ownBlock ∨ v9.ownBlock = some wr.heap.size) :
    FX T eE rb G lo w (w9.setCell ⟨G, 2, none⟩ v9) d vr v9 r u9 := by
  obtain ⟨k1, k2, k3⟩ := h.kept h.oww h.offw g9
  have h1 := h.hrb; have h2 := h.hG; have h3 := h.hlo; have h4 := h.lt
  have hoff : v9.ownBlock ≠ some G := by
    rcases b9 with e | e
    · rw [e]; exact h.offw
    · rw [e]; intro e2; cases e2; omega
  refine ⟨GB.setNew k1 (by omega) _ _, ?_, (Below.heap_setCell _ _ _ _ (show w.heap.size ≠ G by omega)).trans k3, (h.orr.keep g9 h.ap).ap _ _ (.inr h.offr), o9.ap _ _ (.inr hoff), Apart.grown h.orr h.ap (Nat.le_refl _) b9, h.offr, hoff, h1, h2, h3⟩
  rw [heap_setCell_same _ _ _ _ _ _ k2]; rfl
theorem FX.addR (h : FX T eE rb G lo w wr d vr vw r u) (g9 : wr.grownBy w9 vr.ownBlock) (o9 : Own Ent.enc eE 2 lo w9 v9 u9) (b9 : v9.ownBlock = vr.ownBlock ∨ v9.ownBlock = some wr.heap.size) :
    FX T eE rb G lo w (w9.setCell ⟨G, 1, none⟩ v9) d v9 vw u9 u := by
  obtain ⟨k1, k2, k3⟩ := h.kept h.orr h.offr g9
  have h1 := h.hrb; have h2 := h.hG; have h3 := h.hlo; have h4 := h.lt
  have hoff : v9.ownBlock ≠ some G := by
    rcases b9 with e | e
    · rw [e]; exact h.offr
    · rw [e]; intro e2; cases e2; omega
  refine ⟨GB.setNew k1 (by omega) _ _, ?_, (Below.heap_setCell _ _ _ _ (show w.heap.size ≠ G by omega)).trans k3, o9.ap _ _ (.inr hoff), (h.oww.keep g9 h.ap.symm).ap _ _ (.inr h.offw), (Apart.grown h.oww h.ap.symm (Nat.le_refl _) b9).symm, hoff, h.offw, h1, h2, h3⟩
  rw [heap_setCell_same _ _ _ _ _ _ k2]; rfl
theorem FX.setD (h : FX T eE rb G lo w wr d vr vw r u) (d' : Bool) : FX T eE rb G lo w (wr.setCell ⟨G, 0, none⟩ (.bool d')) d' vr vw r u := by
  have h1 := h.hrb; have h2 := h.hG; have h3 := h.hlo
  refine ⟨GB.setNew h.gb (by omega) _ _, ?_, (Below.heap_setCell _ _ _ _ (show w.heap.size ≠ G by omega)).trans h.res, h.orr.ap _ _ (.inr h.offr), h.oww.ap _ _ (.inr h.offw), h.ap, h.offr, h.offw, h1, h2, h3⟩
  rw [heap_setCell_same _ _ _ _ _ _ h.box]; rfl
theorem FX.rd {w0 : World} {lim : Int} {v : Value} {l : List Ent} (h : FX T eE rb G lo w wr d vr vw r u) (hR : Rd w0 wr rb lim) (ho : Own Ent.enc eE 2 lo wr v l) (g9 : wr.grownBy w9 v.ownBlock) (hE : Ext w0 w9) (i : Nat) (x : Value) : Rd w0 (w9.setCell ⟨G, i, none⟩ x) rb lim := by
  have h1 := h.hrb; have h2 := h.hG; have h3 := h.hlo
  have h4 := hR.old
  exact Rd.set (hR.grown hE (g9.block rb hR.lt (own_ne ho (by omega)))) _ _ (by omega) (by omega)
end
end Go.Proofs.Ytkboefmkfpnpjaa
