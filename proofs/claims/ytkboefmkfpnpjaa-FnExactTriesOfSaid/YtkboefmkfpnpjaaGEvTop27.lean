/- Walks: engines on the program's side: EngineValid. -/
import Derived.Test.YtkboefmkfpnpjaaGEvTop22
import Derived.Test.YtkboefmkfpnpjaaGEvTop26
set_option linter.unusedSimpArgs false
set_option linter.unusedVariables false
namespace Go.Proofs.Ytkboefmkfpnpjaa
open Go Go.RowKit Go.Proofs

theorem ckAt_two {e : Eng} {k : Nat} {t : Slt} (ht : e.sl[k]? = some t) (h2 : t.st = 2) : ckAt e k = ((decide (k = 0) || match e.sl[k - 1]? with | some p => p.st == 2 | none => true) && curOk e.base e.vers k t) := by
  simp only [ckAt, ht, h2, if_true]
  rfl
theorem ckAt_other {e : Eng} {k : Nat} {t : Slt} (ht : e.sl[k]? = some t) (h2 : t.st ≠ 2) : ckAt e k = true := by
  simp [ckAt, ht, h2]
theorem sltTry_parts {x : Actn} {n : Int} {t : Slt} (h : sltOk x n t = true) (h0 : t.st ≠ 0) : t.e.r.length = x.rk.length ∧ t.f.length = x.rk.length ∧ ∀ (i : Nat) y k, t.e.r[i]? = some y → x.rk[i]? = some k → y.k = k := by
  unfold sltOk at h
  rw [if_neg h0] at h
  simp only [sltTry, Bool.and_eq_true, decide_eq_true_eq] at h
  obtain ⟨_, _, h1, h2, h3, _⟩ := h
  refine ⟨h1, h2, fun i y k hy hk => ?_⟩
  have hil := (List.getElem?_eq_some_iff.1 hy).1
  obtain ⟨q, hq⟩ := getElem?_some_of_lt (l := t.f) (k := i) (by omega)
  have := upTo_iff.1 h3 i hil
  rw [rdAt_eq hy hk hq] at this
  simp only [Bool.and_eq_true, beq_iff_eq] at this
  exact this.1
/-- The versions of the slots up to k. -/
theorem slots_vers {e : Eng} (ha : actsOk e.acts = true) (hl : e.sl.length = e.acts.length) {k : Nat} (hk : k ≤ e.sl.length) (h : upTo (slAt e) k = true) :
    versOk (versE (e.sl.map (·.e)) k) = true ∧ (versE (e.sl.map (·.e)) k).length ≤ 32 * k := by
  have h10 := actsOk_len ha
  have hw := slots_w ha hl hk h
  rw [← versE_take (e.sl.map (·.e)) k k (Nat.le_refl _)]
  exact ⟨versE_ok hw k (by omega), versE_len hw k⟩
theorem versE_slot {e : Eng} {k : Nat} {t : Slt} (ht : e.sl[k]? = some t) : versE (e.sl.map (·.e)) (k + 1) = putV (versE (e.sl.map (·.e)) k) k t.e.w := by
  rw [versE_next (e := t.e) (by rw [List.getElem?_map, ht]; rfl)]
theorem st_prev {a b : Nat} (ha : 0 < a) : decide (a = 0) = false := by simp; omega
set_option maxRecDepth 100000 in
set_option maxHeartbeats 4000000 in
theorem iEngineValid_any (e : Eng) (v0 v1 v2 v3 : Value) (w : World) (h : SG w v0 v1 v2 v3 e) (hvl : e.vers.length ≤ 1048576) :
    Calls Try.prog 51 #[.agg #[v0, v1, v2, v3]] w fun ed w' => ed = .returned (.bool e.ok) ∧ Up w w' := by
  have HG := Lib.hid h
  obtain ⟨p0, c0, rfl, _, _⟩ := h.base.openc
  obtain ⟨p1, c1, rfl, _, _⟩ := h.acts.openc
  obtain ⟨p2, c2, rfl, _, _⟩ := h.vers.openc
  obtain ⟨p3, c3, rfl, _, hcs⟩ := h.sl.open
  have HCS := Lib.hid hcs
  have kst := fun w h => iStoreValid_any e.base (.slice p0 e.base.length c0) w h
  have kac := fun w h => iActionsValid_any e.acts (.slice p1 e.acts.length c1) w h
  have hE := Lib.hid (show e.ok = (entsOk 1 e.base && (actsOk e.acts && (decide (e.sl.length = e.acts.length) && (upTo (slAt e) e.sl.length && (sameL sameV1 (versE (e.sl.map (·.e)) e.sl.length) e.vers && upTo (ckAt e) e.sl.length))))) from rfl)
  generalize e.ok = B at *
  clear h hcs
  rcases guards3 (entsOk 1 e.base) (actsOk e.acts) (decide (e.sl.length = e.acts.length)) with g1 | ⟨g1, g2⟩ | ⟨g1, g2, g3⟩ | ⟨g1, g2, g3⟩
  · rw [g1] at kst hE
    obtain rfl : B = false := hE.out
    clear g1
    go_enter Try.func51, Try.ntmps51
    go_wp2_with fail
    refine (kst _ (HG.out.base.up (by repeat (first | (with_reducible exact Ext.refl _) | (with_reducible refine Ext.up ?_ _) | (with_reducible refine Ext.alloc ?_ _) | (with_reducible refine Ext.drew ?_) | (with_reducible refine Ext.setRow ?_ (by first | exact LeS.le | exact LeS.add _ | (simp; done) | (simp; omega)) _) | (with_reducible refine Ext.setCell ?_ (by first | exact LeS.le | exact LeS.add _ | (simp; done) | (simp; omega)) _))))).mono ?_; rintro ed w' ⟨rfl, ⟨z1, rfl⟩⟩
    go_wp2_with fail
    go_ret
    exact ⟨rfl, (.of (by repeat (first | (with_reducible exact Ext.refl _) | (with_reducible refine Ext.up ?_ _) | (with_reducible refine Ext.alloc ?_ _) | (with_reducible refine Ext.drew ?_) | (with_reducible refine Ext.setRow ?_ (by first | exact LeS.le | exact LeS.add _ | (simp; done) | (simp; omega)) _) | (with_reducible refine Ext.setCell ?_ (by first | exact LeS.le | exact LeS.add _ | (simp; done) | (simp; omega)) _))))⟩
  · rw [g1] at kst hE; rw [g2] at kac hE
    obtain rfl : B = false := hE.out
    clear g1 g2
    go_enter Try.func51, Try.ntmps51
    go_wp2_with fail
    refine (kst _ (HG.out.base.up (by repeat (first | (with_reducible exact Ext.refl _) | (with_reducible refine Ext.up ?_ _) | (with_reducible refine Ext.alloc ?_ _) | (with_reducible refine Ext.drew ?_) | (with_reducible refine Ext.setRow ?_ (by first | exact LeS.le | exact LeS.add _ | (simp; done) | (simp; omega)) _) | (with_reducible refine Ext.setCell ?_ (by first | exact LeS.le | exact LeS.add _ | (simp; done) | (simp; omega)) _))))).mono ?_; rintro ed w' ⟨rfl, ⟨z1, rfl⟩⟩
    go_wp2_with fail
    refine (kac _ (HG.out.acts.up (by repeat (first | (with_reducible exact Ext.refl _) | (with_reducible refine Ext.up ?_ _) | (with_reducible refine Ext.alloc ?_ _) | (with_reducible refine Ext.drew ?_) | (with_reducible refine Ext.setRow ?_ (by first | exact LeS.le | exact LeS.add _ | (simp; done) | (simp; omega)) _) | (with_reducible refine Ext.setCell ?_ (by first | exact LeS.le | exact LeS.add _ | (simp; done) | (simp; omega)) _))))).mono ?_; rintro ed w' ⟨rfl, ⟨z2, rfl⟩⟩
    go_wp2_with fail
    go_ret
    exact ⟨rfl, (.of (by repeat (first | (with_reducible exact Ext.refl _) | (with_reducible refine Ext.up ?_ _) | (with_reducible refine Ext.alloc ?_ _) | (with_reducible refine Ext.drew ?_) | (with_reducible refine Ext.setRow ?_ (by first | exact LeS.le | exact LeS.add _ | (simp; done) | (simp; omega)) _) | (with_reducible refine Ext.setCell ?_ (by first | exact LeS.le | exact LeS.add _ | (simp; done) | (simp; omega)) _))))⟩
  · rw [g1] at kst hE; rw [g2] at kac hE; rw [g3] at hE
    obtain rfl : B = false := hE.out
    have g3' : ((e.sl.length : Int) != (e.acts.length : Int)) = true := by rw [bne_iff_ne]; have := of_decide_eq_false g3; omega
    clear g1 g2 g3
    go_enter Try.func51, Try.ntmps51
    go_wp2_with fail
    refine (kst _ (HG.out.base.up (by repeat (first | (with_reducible exact Ext.refl _) | (with_reducible refine Ext.up ?_ _) | (with_reducible refine Ext.alloc ?_ _) | (with_reducible refine Ext.drew ?_) | (with_reducible refine Ext.setRow ?_ (by first | exact LeS.le | exact LeS.add _ | (simp; done) | (simp; omega)) _) | (with_reducible refine Ext.setCell ?_ (by first | exact LeS.le | exact LeS.add _ | (simp; done) | (simp; omega)) _))))).mono ?_; rintro ed w' ⟨rfl, ⟨z1, rfl⟩⟩
    go_wp2_with fail
    refine (kac _ (HG.out.acts.up (by repeat (first | (with_reducible exact Ext.refl _) | (with_reducible refine Ext.up ?_ _) | (with_reducible refine Ext.alloc ?_ _) | (with_reducible refine Ext.drew ?_) | (with_reducible refine Ext.setRow ?_ (by first | exact LeS.le | exact LeS.add _ | (simp; done) | (simp; omega)) _) | (with_reducible refine Ext.setCell ?_ (by first | exact LeS.le | exact LeS.add _ | (simp; done) | (simp; omega)) _))))).mono ?_; rintro ed w' ⟨rfl, ⟨z2, rfl⟩⟩
    go_wp2_with fail
    go_ret
    exact ⟨rfl, (.of (by repeat (first | (with_reducible exact Ext.refl _) | (with_reducible refine Ext.up ?_ _) | (with_reducible refine Ext.alloc ?_ _) | (with_reducible refine Ext.drew ?_) | (with_reducible refine Ext.setRow ?_ (by first | exact LeS.le | exact LeS.add _ | (simp; done) | (simp; omega)) _) | (with_reducible refine Ext.setCell ?_ (by first | exact LeS.le | exact LeS.add _ | (simp; done) | (simp; omega)) _))))⟩
  rw [g3, g1, g2] at hE
  have hl := Lib.hid (of_decide_eq_true g3)
  have hl10 := actsOk_len g2
  have hsl10 : e.sl.length ≤ 10 := by rw [hl.out]; exact hl10
  have g3' : ((e.sl.length : Int) != (e.acts.length : Int)) = false := by rw [bne_eq_false_iff_eq]; have := of_decide_eq_true g3; omega
  have G1 := Lib.hid g1; have G2 := Lib.hid g2
  rw [g1] at kst; rw [g2] at kac
  obtain rfl : B = (upTo (slAt e) e.sl.length && (sameL sameV1 (versE (e.sl.map (·.e)) e.sl.length) e.vers && upTo (ckAt e) e.sl.length)) := hE.out
  clear g1 g2 g3 hE
  go_enter Try.func51, Try.ntmps51
  go_wp2_with fail
  refine (kst _ (HG.out.base.up (by repeat (first | (with_reducible exact Ext.refl _) | (with_reducible refine Ext.up ?_ _) | (with_reducible refine Ext.alloc ?_ _) | (with_reducible refine Ext.drew ?_) | (with_reducible refine Ext.setRow ?_ (by first | exact LeS.le | exact LeS.add _ | (simp; done) | (simp; omega)) _) | (with_reducible refine Ext.setCell ?_ (by first | exact LeS.le | exact LeS.add _ | (simp; done) | (simp; omega)) _))))).mono ?_; rintro ed w' ⟨rfl, ⟨z1, rfl⟩⟩
  go_wp2_with fail
  refine (kac _ (HG.out.acts.up (by repeat (first | (with_reducible exact Ext.refl _) | (with_reducible refine Ext.up ?_ _) | (with_reducible refine Ext.alloc ?_ _) | (with_reducible refine Ext.drew ?_) | (with_reducible refine Ext.setRow ?_ (by first | exact LeS.le | exact LeS.add _ | (simp; done) | (simp; omega)) _) | (with_reducible refine Ext.setCell ?_ (by first | exact LeS.le | exact LeS.add _ | (simp; done) | (simp; omega)) _))))).mono ?_; rintro ed w' ⟨rfl, ⟨z2, rfl⟩⟩
  clear kst kac
  go_wp2_with fail
  go_loopw [3, 4, 5, 30] (fun s3 _ _ s30 wr => ∃ (k : Nat), s30 = .int .i64 k ∧ k ≤ e.sl.length ∧ Up z2.val wr ∧ upTo (slAt e) k = true ∧ Own Ver.enc 88 3 z2.val.heap.size wr s3 (versE (e.sl.map (·.e)) k)) (fun _ _ _ s30 _ => e.sl.length - (intOf s30).toNat)
  case atStart => exact ⟨0, rfl, Nat.zero_le _, (.of (by repeat (first | (with_reducible exact Ext.refl _) | (with_reducible refine Ext.up ?_ _) | (with_reducible refine Ext.alloc ?_ _) | (with_reducible refine Ext.drew ?_) | (with_reducible refine Ext.setRow ?_ (by first | exact LeS.le | exact LeS.add _ | (simp; done) | (simp; omega)) _) | (with_reducible refine Ext.setCell ?_ (by first | exact LeS.le | exact LeS.add _ | (simp; done) | (simp; omega)) _)))), rfl, Own.nil _ _ _ _ _⟩
  case round =>
    obtain ⟨k, rfl, hk, ⟨z, rfl⟩, hall, hown⟩ := hrel
    have HALL := Lib.hid hall; have HO := Lib.hid hown
    clear hown
    obtain ⟨hvo, hvle⟩ := slots_vers G2.out hl.out hk hall
    by_cases hlt : k < e.sl.length
    · obtain ⟨t, ht⟩ := getElem?_some_of_lt hlt
      obtain ⟨x, hx⟩ := getElem?_some_of_lt (l := e.acts) (k := k) (by rw [← hl.out]; exact hlt)
      have hxo := actsOk_at G2.out hx
      obtain ⟨b, off, q0, d0, q1, d1, q2, d2, rfl, hb, ⟨e0, e1, e2, e3, e4, e5⟩, sf, sr, sw⟩ := HCS.out k t ht
      have ksl := fun w h => slotRight_any e (.slice p0 e.base.length c0) (.slice p1 e.acts.length c1) (.slice p2 e.vers.length c2) (.slice (some ⟨b, off, none⟩) e.sl.length c3) k x t w h hx hxo ht (by omega)
      have Hat := Lib.hid (slAt_eq ht hx)
      have Hnx := Lib.hid (versE_slot ht)
      have k0 : (0 : Int) ≤ (k : Int) := by omega
      have k1 : (k : Int) < e.sl.length := by omega
      have hwo := Lib.hid (fun h => sltOk_w (n := (k : Int)) (s := t) hxo h fun _ => trivial)
      have SW := Lib.hid sw
      have hsm : versOk (versE (e.sl.map (·.e)) k) = true := hvo
      have Hvo := Lib.hid hvo
      have hb9 : inR (k : Int) 0 9 = true := by rw [inR_iff]; omega
      have Hb9 := Lib.hid hb9
      clear hall ht hx hxo sf sr sw hvo hsm hb9
      rcases hsb : sltOk x k t with _ | _
      · rw [hsb] at ksl
        have Hf := Lib.hid (upTo_false (f := slAt e) hlt (by rw [Hat.out, hsb]))
        clear hsb hwo
        go_wp2_with fail
        refine (ksl _ (HG.out.up (by repeat (first | (with_reducible exact Ext.refl _) | (with_reducible refine Ext.up ?_ _) | (with_reducible refine Ext.alloc ?_ _) | (with_reducible refine Ext.drew ?_) | (with_reducible refine Ext.setRow ?_ (by first | exact LeS.le | exact LeS.add _ | (simp; done) | (simp; omega)) _) | (with_reducible refine Ext.setCell ?_ (by first | exact LeS.le | exact LeS.add _ | (simp; done) | (simp; omega)) _))))).mono ?_; rintro ed w' ⟨rfl, ⟨z3, rfl⟩⟩
        go_wp2_with fail
        go_ret
        exact ⟨by rw [Hf.out]; rfl, (.of (by repeat (first | (with_reducible exact Ext.refl _) | (with_reducible refine Ext.up ?_ _) | (with_reducible refine Ext.alloc ?_ _) | (with_reducible refine Ext.drew ?_) | (with_reducible refine Ext.setRow ?_ (by first | exact LeS.le | exact LeS.add _ | (simp; done) | (simp; omega)) _) | (with_reducible refine Ext.setCell ?_ (by first | exact LeS.le | exact LeS.add _ | (simp; done) | (simp; omega)) _))))⟩
      · rw [hsb] at ksl
        have Ht := Lib.hid (upTo_succ (f := slAt e) HALL.out (by rw [Hat.out, hsb]))
        have hw := hwo.out hsb
        have hwl := entsOk_len hw
        have Hw := Lib.hid hw
        clear hsb hwo hw
        go_wp2_with fail
        refine (ksl _ (HG.out.up (by repeat (first | (with_reducible exact Ext.refl _) | (with_reducible refine Ext.up ?_ _) | (with_reducible refine Ext.alloc ?_ _) | (with_reducible refine Ext.drew ?_) | (with_reducible refine Ext.setRow ?_ (by first | exact LeS.le | exact LeS.add _ | (simp; done) | (simp; omega)) _) | (with_reducible refine Ext.setCell ?_ (by first | exact LeS.le | exact LeS.add _ | (simp; done) | (simp; omega)) _))))).mono ?_; rintro ed w' ⟨rfl, ⟨z3, rfl⟩⟩
        clear ksl
        go_wp2_with fail
        refine (withWrites_any (versE (e.sl.map (·.e)) k) t.e.w _ (.slice q2 t.e.w.length d2) (k : Int) _ ((HO.out.sl Ver.enc_length).up (by repeat (first | (with_reducible exact Ext.refl _) | (with_reducible refine Ext.up ?_ _) | (with_reducible refine Ext.alloc ?_ _) | (with_reducible refine Ext.drew ?_) | (with_reducible refine Ext.setRow ?_ (by first | exact LeS.le | exact LeS.add _ | (simp; done) | (simp; omega)) _) | (with_reducible refine Ext.setCell ?_ (by first | exact LeS.le | exact LeS.add _ | (simp; done) | (simp; omega)) _)))) (SW.out.up (by repeat (first | (with_reducible exact Ext.refl _) | (with_reducible refine Ext.up ?_ _) | (with_reducible refine Ext.alloc ?_ _) | (with_reducible refine Ext.drew ?_) | (with_reducible refine Ext.setRow ?_ (by first | exact LeS.le | exact LeS.add _ | (simp; done) | (simp; omega)) _) | (with_reducible refine Ext.setCell ?_ (by first | exact LeS.le | exact LeS.add _ | (simp; done) | (simp; omega)) _)))) (by omega) (by omega) Hvo.out Hb9.out Hw.out).mono ?_; rintro ed w' ⟨v4, rfl, ⟨z4, rfl⟩, o4⟩
        have O4 := Lib.hid o4; clear o4
        have hz := z.ext.size
        have hz3 := z3.ext.size
        simp at hz3
        go_wp2_with fail
        go_roundw
        case rel => exact ⟨k + 1, by go_num, by omega, (.of (by repeat (first | (with_reducible exact Ext.refl _) | (with_reducible refine Ext.up ?_ _) | (with_reducible refine Ext.alloc ?_ _) | (with_reducible refine Ext.drew ?_) | (with_reducible refine Ext.setRow ?_ (by first | exact LeS.le | exact LeS.add _ | (simp; done) | (simp; omega)) _) | (with_reducible refine Ext.setCell ?_ (by first | exact LeS.le | exact LeS.add _ | (simp; done) | (simp; omega)) _)))), Ht.out, by rw [Hnx.out]; exact O4.out.lo (by omega)⟩
        case measure => simp [intOf] <;> omega
    · obtain rfl : k = e.sl.length := by omega
      obtain ⟨pv, cv, rfl, _, _⟩ := (HO.out.sl Ver.enc_length).openc
      have HV := Lib.hid (HO.out.sl Ver.enc_length)
      have keq := fun w h h' => eqVers_any (versE (e.sl.map (·.e)) e.sl.length) e.vers (.slice pv (versE (e.sl.map (·.e)) e.sl.length).length cv) (.slice p2 e.vers.length c2) w h h'
      have Hall := Lib.hid hall
      clear HO hvo hall HALL
      rcases hq : sameL sameV1 (versE (e.sl.map (·.e)) e.sl.length) e.vers with _ | _
      · rw [hq] at keq
        have Hq := Lib.hid hq; clear hq
        generalize versE (e.sl.map (·.e)) e.sl.length = V at keq HV hvle ⊢
        go_wp2_with fail
        refine (keq _ (HV.out.up (by repeat (first | (with_reducible exact Ext.refl _) | (with_reducible refine Ext.up ?_ _) | (with_reducible refine Ext.alloc ?_ _) | (with_reducible refine Ext.drew ?_) | (with_reducible refine Ext.setRow ?_ (by first | exact LeS.le | exact LeS.add _ | (simp; done) | (simp; omega)) _) | (with_reducible refine Ext.setCell ?_ (by first | exact LeS.le | exact LeS.add _ | (simp; done) | (simp; omega)) _)))) (HG.out.vers.up (by repeat (first | (with_reducible exact Ext.refl _) | (with_reducible refine Ext.up ?_ _) | (with_reducible refine Ext.alloc ?_ _) | (with_reducible refine Ext.drew ?_) | (with_reducible refine Ext.setRow ?_ (by first | exact LeS.le | exact LeS.add _ | (simp; done) | (simp; omega)) _) | (with_reducible refine Ext.setCell ?_ (by first | exact LeS.le | exact LeS.add _ | (simp; done) | (simp; omega)) _))))).mono ?_; rintro ed w' ⟨rfl, ⟨z5, rfl⟩⟩
        go_wp2_with fail
        go_ret
        exact ⟨by rw [Hall.out, Hq.out]; rfl, (.of (by repeat (first | (with_reducible exact Ext.refl _) | (with_reducible refine Ext.up ?_ _) | (with_reducible refine Ext.alloc ?_ _) | (with_reducible refine Ext.drew ?_) | (with_reducible refine Ext.setRow ?_ (by first | exact LeS.le | exact LeS.add _ | (simp; done) | (simp; omega)) _) | (with_reducible refine Ext.setCell ?_ (by first | exact LeS.le | exact LeS.add _ | (simp; done) | (simp; omega)) _))))⟩
      rw [hq] at keq
      have Hq := Lib.hid hq; clear hq
      generalize versE (e.sl.map (·.e)) e.sl.length = V at keq HV hvle ⊢
      go_wp2_with fail
      refine (keq _ (HV.out.up (by repeat (first | (with_reducible exact Ext.refl _) | (with_reducible refine Ext.up ?_ _) | (with_reducible refine Ext.alloc ?_ _) | (with_reducible refine Ext.drew ?_) | (with_reducible refine Ext.setRow ?_ (by first | exact LeS.le | exact LeS.add _ | (simp; done) | (simp; omega)) _) | (with_reducible refine Ext.setCell ?_ (by first | exact LeS.le | exact LeS.add _ | (simp; done) | (simp; omega)) _)))) (HG.out.vers.up (by repeat (first | (with_reducible exact Ext.refl _) | (with_reducible refine Ext.up ?_ _) | (with_reducible refine Ext.alloc ?_ _) | (with_reducible refine Ext.drew ?_) | (with_reducible refine Ext.setRow ?_ (by first | exact LeS.le | exact LeS.add _ | (simp; done) | (simp; omega)) _) | (with_reducible refine Ext.setCell ?_ (by first | exact LeS.le | exact LeS.add _ | (simp; done) | (simp; omega)) _))))).mono ?_; rintro ed w' ⟨rfl, ⟨z5, rfl⟩⟩
      clear keq
      go_wp2_with fail
      go_loopw [6, 7, 54] (fun _ _ s54 wr => ∃ (k : Nat), s54 = .int .i64 k ∧ k ≤ e.sl.length ∧ Up z5.val wr ∧ upTo (ckAt e) k = true) (fun _ _ s54 _ => e.sl.length - (intOf s54).toNat)
      case atStart => exact ⟨0, rfl, Nat.zero_le _, (.of (by repeat (first | (with_reducible exact Ext.refl _) | (with_reducible refine Ext.up ?_ _) | (with_reducible refine Ext.alloc ?_ _) | (with_reducible refine Ext.drew ?_) | (with_reducible refine Ext.setRow ?_ (by first | exact LeS.le | exact LeS.add _ | (simp; done) | (simp; omega)) _) | (with_reducible refine Ext.setCell ?_ (by first | exact LeS.le | exact LeS.add _ | (simp; done) | (simp; omega)) _)))), rfl⟩
      case round =>
        obtain ⟨k, rfl, hk, ⟨z6, rfl⟩, hck⟩ := hrel
        have HCK := Lib.hid hck; clear hck
        by_cases hlt : k < e.sl.length
        · obtain ⟨t, ht⟩ := getElem?_some_of_lt hlt
          obtain ⟨x, hx⟩ := getElem?_some_of_lt (l := e.acts) (k := k) (by rw [← hl.out]; exact hlt)
          have hxo := actsOk_at G2.out hx
          obtain ⟨b, off, q0, d0, q1, d1, q2, d2, rfl, hb, ⟨e0, e1, e2, e3, e4, e5⟩, -, -, -⟩ := HCS.out k t ht
          have k0 : (0 : Int) ≤ (k : Int) := by omega
          have k1 : (k : Int) < e.sl.length := by omega
          have hslk := upTo_iff.1 Hall.out k hlt
          rw [slAt_eq ht hx] at hslk
          by_cases h2 : t.st = 2
          rotate_left
          · have h2' : (t.st == 2) = false := by simpa using h2
            have Ht := Lib.hid (upTo_succ (f := ckAt e) HCK.out (ckAt_other ht h2))
            clear ht hx hxo hslk h2
            go_wp2_with fail
            go_roundw
            case rel => exact ⟨k + 1, by go_num, by omega, (.of (by repeat (first | (with_reducible exact Ext.refl _) | (with_reducible refine Ext.up ?_ _) | (with_reducible refine Ext.alloc ?_ _) | (with_reducible refine Ext.drew ?_) | (with_reducible refine Ext.setRow ?_ (by first | exact LeS.le | exact LeS.add _ | (simp; done) | (simp; omega)) _) | (with_reducible refine Ext.setCell ?_ (by first | exact LeS.le | exact LeS.add _ | (simp; done) | (simp; omega)) _)))), Ht.out⟩
            case measure => simp [intOf] <;> omega
          obtain ⟨m1, m2, m3⟩ := sltTry_parts hslk (by omega)
          have h2' : (t.st == 2) = true := by simpa using h2
          have Hc := Lib.hid (ckAt_two ht h2)
          have kcu := fun w h => current_any e (.slice p0 e.base.length c0) (.slice p1 e.acts.length c1) (.slice p2 e.vers.length c2) (.slice (some ⟨b, off, none⟩) e.sl.length c3) k x t w h G1.out hx hxo ht m1 m2 m3
          generalize curOk e.base e.vers k t = bc at *
          clear ht hx hxo hslk h2 m1 m2 m3
          by_cases hk0 : k = 0
          · have hkp : decide ((0 : Int) < (k : Int)) = false := by simp; omega
            have hkp' : decide (0 < k) = false := by simp; omega
            have Hk0 := Lib.hid (show decide (k = 0) = true from decide_eq_true hk0)
            clear hk0
            rcases bc with _ | _
            · have Hf := Lib.hid (upTo_false (f := ckAt e) hlt (by rw [Hc.out]; simp))
              go_wp2_with fail
              refine (kcu _ (HG.out.up (by repeat (first | (with_reducible exact Ext.refl _) | (with_reducible refine Ext.up ?_ _) | (with_reducible refine Ext.alloc ?_ _) | (with_reducible refine Ext.drew ?_) | (with_reducible refine Ext.setRow ?_ (by first | exact LeS.le | exact LeS.add _ | (simp; done) | (simp; omega)) _) | (with_reducible refine Ext.setCell ?_ (by first | exact LeS.le | exact LeS.add _ | (simp; done) | (simp; omega)) _))))).mono ?_; rintro ed w' ⟨rfl, ⟨z7, rfl⟩⟩
              go_wp2_with fail
              go_ret
              exact ⟨by rw [Hall.out, Hq.out, Hf.out]; rfl, (.of (by repeat (first | (with_reducible exact Ext.refl _) | (with_reducible refine Ext.up ?_ _) | (with_reducible refine Ext.alloc ?_ _) | (with_reducible refine Ext.drew ?_) | (with_reducible refine Ext.setRow ?_ (by first | exact LeS.le | exact LeS.add _ | (simp; done) | (simp; omega)) _) | (with_reducible refine Ext.setCell ?_ (by first | exact LeS.le | exact LeS.add _ | (simp; done) | (simp; omega)) _))))⟩
            · have Ht := Lib.hid (upTo_succ (f := ckAt e) HCK.out (by rw [Hc.out, Hk0.out]; rfl))
              go_wp2_with fail
              refine (kcu _ (HG.out.up (by repeat (first | (with_reducible exact Ext.refl _) | (with_reducible refine Ext.up ?_ _) | (with_reducible refine Ext.alloc ?_ _) | (with_reducible refine Ext.drew ?_) | (with_reducible refine Ext.setRow ?_ (by first | exact LeS.le | exact LeS.add _ | (simp; done) | (simp; omega)) _) | (with_reducible refine Ext.setCell ?_ (by first | exact LeS.le | exact LeS.add _ | (simp; done) | (simp; omega)) _))))).mono ?_; rintro ed w' ⟨rfl, ⟨z7, rfl⟩⟩
              go_wp2_with fail
              go_roundw
              case rel => exact ⟨k + 1, by go_num, by omega, (.of (by repeat (first | (with_reducible exact Ext.refl _) | (with_reducible refine Ext.up ?_ _) | (with_reducible refine Ext.alloc ?_ _) | (with_reducible refine Ext.drew ?_) | (with_reducible refine Ext.setRow ?_ (by first | exact LeS.le | exact LeS.add _ | (simp; done) | (simp; omega)) _) | (with_reducible refine Ext.setCell ?_ (by first | exact LeS.le | exact LeS.add _ | (simp; done) | (simp; omega)) _)))), Ht.out⟩
              case measure => simp [intOf] <;> omega
          have hkp : decide ((0 : Int) < (k : Int)) = true := by simp; omega
          have hkp' : decide (0 < k) = true := by simp; omega
          obtain ⟨pr, hpr⟩ := getElem?_some_of_lt (l := e.sl) (k := k - 1) (by omega)
          obtain ⟨b', off', _, _, _, _, _, _, ee, _, ⟨f0, -⟩, -⟩ := HCS.out (k - 1) pr hpr
          simp only [Option.some.injEq, Addr.mk.injEq, and_true] at ee
          obtain ⟨rfl, rfl⟩ := ee
          have km : ((k : Int) - 1).toNat = k - 1 := by omega
          have km0 : (0 : Int) ≤ (k : Int) - 1 := by omega
          have km1 : (k : Int) - 1 < e.sl.length := by omega
          have kw : IntKind.i64.wrap ((k : Int) - 1) = (k : Int) - 1 := IntWalk.i64_in _ ⟨by omega, by omega⟩
          have Hk0 := Lib.hid (show decide (k = 0) = false from decide_eq_false hk0)
          rw [hpr] at Hc
          clear hpr hk0
          rcases hp2 : (pr.st == 2) with _ | _
          · have hp2' : (pr.st != 2) = true := by rw [bne, hp2]; rfl
            have Hf := Lib.hid (upTo_false (f := ckAt e) hlt (by rw [Hc.out, Hk0.out]; simp [hp2]))
            clear hp2 kcu
            go_wp2_with fail
            go_ret
            exact ⟨by rw [Hall.out, Hq.out, Hf.out]; rfl, (.of (by repeat (first | (with_reducible exact Ext.refl _) | (with_reducible refine Ext.up ?_ _) | (with_reducible refine Ext.alloc ?_ _) | (with_reducible refine Ext.drew ?_) | (with_reducible refine Ext.setRow ?_ (by first | exact LeS.le | exact LeS.add _ | (simp; done) | (simp; omega)) _) | (with_reducible refine Ext.setCell ?_ (by first | exact LeS.le | exact LeS.add _ | (simp; done) | (simp; omega)) _))))⟩
          have hp2' : (pr.st != 2) = false := by rw [bne, hp2]; rfl
          rcases bc with _ | _
          · have Hf := Lib.hid (upTo_false (f := ckAt e) hlt (by rw [Hc.out]; simp))
            clear hp2
            go_wp2_with fail
            refine (kcu _ (HG.out.up (by repeat (first | (with_reducible exact Ext.refl _) | (with_reducible refine Ext.up ?_ _) | (with_reducible refine Ext.alloc ?_ _) | (with_reducible refine Ext.drew ?_) | (with_reducible refine Ext.setRow ?_ (by first | exact LeS.le | exact LeS.add _ | (simp; done) | (simp; omega)) _) | (with_reducible refine Ext.setCell ?_ (by first | exact LeS.le | exact LeS.add _ | (simp; done) | (simp; omega)) _))))).mono ?_; rintro ed w' ⟨rfl, ⟨z7, rfl⟩⟩
            go_wp2_with fail
            go_ret
            exact ⟨by rw [Hall.out, Hq.out, Hf.out]; rfl, (.of (by repeat (first | (with_reducible exact Ext.refl _) | (with_reducible refine Ext.up ?_ _) | (with_reducible refine Ext.alloc ?_ _) | (with_reducible refine Ext.drew ?_) | (with_reducible refine Ext.setRow ?_ (by first | exact LeS.le | exact LeS.add _ | (simp; done) | (simp; omega)) _) | (with_reducible refine Ext.setCell ?_ (by first | exact LeS.le | exact LeS.add _ | (simp; done) | (simp; omega)) _))))⟩
          · have Ht := Lib.hid (upTo_succ (f := ckAt e) HCK.out (by rw [Hc.out, Hk0.out]; simp [hp2]))
            clear hp2
            go_wp2_with fail
            refine (kcu _ (HG.out.up (by repeat (first | (with_reducible exact Ext.refl _) | (with_reducible refine Ext.up ?_ _) | (with_reducible refine Ext.alloc ?_ _) | (with_reducible refine Ext.drew ?_) | (with_reducible refine Ext.setRow ?_ (by first | exact LeS.le | exact LeS.add _ | (simp; done) | (simp; omega)) _) | (with_reducible refine Ext.setCell ?_ (by first | exact LeS.le | exact LeS.add _ | (simp; done) | (simp; omega)) _))))).mono ?_; rintro ed w' ⟨rfl, ⟨z7, rfl⟩⟩
            go_wp2_with fail
            go_roundw
            case rel => exact ⟨k + 1, by go_num, by omega, (.of (by repeat (first | (with_reducible exact Ext.refl _) | (with_reducible refine Ext.up ?_ _) | (with_reducible refine Ext.alloc ?_ _) | (with_reducible refine Ext.drew ?_) | (with_reducible refine Ext.setRow ?_ (by first | exact LeS.le | exact LeS.add _ | (simp; done) | (simp; omega)) _) | (with_reducible refine Ext.setCell ?_ (by first | exact LeS.le | exact LeS.add _ | (simp; done) | (simp; omega)) _)))), Ht.out⟩
            case measure => simp [intOf] <;> omega
        · obtain rfl : k = e.sl.length := by omega
          go_wp2_with fail
          go_ret
          exact ⟨by rw [Hall.out, Hq.out, HCK.out]; rfl, (.of (by repeat (first | (with_reducible exact Ext.refl _) | (with_reducible refine Ext.up ?_ _) | (with_reducible refine Ext.alloc ?_ _) | (with_reducible refine Ext.drew ?_) | (with_reducible refine Ext.setRow ?_ (by first | exact LeS.le | exact LeS.add _ | (simp; done) | (simp; omega)) _) | (with_reducible refine Ext.setCell ?_ (by first | exact LeS.le | exact LeS.add _ | (simp; done) | (simp; omega)) _))))⟩
end Go.Proofs.Ytkboefmkfpnpjaa
