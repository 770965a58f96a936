/- Walks: engines on the program's side: whether an action reads what it read before. Walks: engines on the program's side: which slots are right. Plain laws: levels of actions. -/
import Derived.Test.YtkboefmkfpnpjaaGEvTop21
import Derived.Test.YtkboefmkfpnpjaaGEvTop13
import Derived.Test.YtkboefmkfpnpjaaGEvTop04
set_option linter.unusedSimpArgs false
set_option linter.unusedVariables false
namespace Go.Proofs.Ytkboefmkfpnpjaa
open Go Go.RowKit Go.Proofs

def valAt (s : List Ent) (V : List Ver) (n : Int) (r : List Ent) (i : Nat) : Bool := match r[i]? with
  | some x => (readV (atK s x.k) V x.k n).1 == x.v
  | none => true
theorem valAt_eq {s : List Ent} {V : List Ver} {n : Int} {r : List Ent} {i : Nat} {x : Ent} (h : r[i]? = some x) : valAt s V n r i = ((readV (atK s x.k) V x.k n).1 == x.v) := by simp [valAt, h]
theorem nowF_get {s : List Ent} {V : List Ver} {n : Int} {rk : List Int} {i : Nat} {k : Int} (h : rk[i]? = some k) : (nowF s V n rk)[i]? = some (readV (atK s k) V k n).2 := by simp [nowF, h]
theorem nowF_len (s : List Ent) (V : List Ver) (n : Int) (rk : List Int) : (nowF s V n rk).length = rk.length := by simp [nowF]
theorem cur_split {s : List Ent} {V : List Ver} {n : Int} {t : Slt} {rk : List Int} (h1 : t.e.r.length = rk.length) (h2 : t.f.length = rk.length) (h3 : ∀ (i : Nat) y k, t.e.r[i]? = some y → rk[i]? = some k → y.k = k) :
    curOk s V n t = (upTo (valAt s V n t.e.r) t.e.r.length && sameL sameI1 (nowF s V n rk) t.f) := by
  rw [Bool.eq_iff_iff]
  unfold curOk sameL
  rw [Bool.and_eq_true, Bool.and_eq_true, decide_eq_true_eq, nowF_len, upTo_iff, upTo_iff, upTo_iff]
  constructor
  · intro h
    refine ⟨fun i hi => ?_, h2.symm, fun i hi => ?_⟩
    · obtain ⟨y, hy⟩ := getElem?_some_of_lt hi
      obtain ⟨q, hq⟩ := getElem?_some_of_lt (l := t.f) (k := i) (by omega)
      have := h i hi
      rw [curAt_eq hy hq, Bool.and_eq_true] at this
      rw [valAt_eq hy]; exact this.1
    · obtain ⟨y, hy⟩ := getElem?_some_of_lt (l := t.e.r) (k := i) (by omega)
      obtain ⟨q, hq⟩ := getElem?_some_of_lt (l := t.f) (k := i) (by omega)
      obtain ⟨k, hk⟩ := getElem?_some_of_lt (l := rk) (k := i) (by omega)
      have := h i (by omega)
      rw [curAt_eq hy hq, Bool.and_eq_true, h3 i y k hy hk] at this
      rw [sameAt_eq (nowF_get hk) hq]; exact this.2
  · rintro ⟨ha, _, hb⟩ i hi
    obtain ⟨y, hy⟩ := getElem?_some_of_lt hi
    obtain ⟨q, hq⟩ := getElem?_some_of_lt (l := t.f) (k := i) (by omega)
    obtain ⟨k, hk⟩ := getElem?_some_of_lt (l := rk) (k := i) (by omega)
    have g1 := ha i hi
    have g2 := hb i (by omega)
    rw [valAt_eq hy] at g1
    rw [sameAt_eq (nowF_get hk) hq] at g2
    rw [curAt_eq hy hq, g1, Bool.true_and, h3 i y k hy hk]; exact g2
set_option maxRecDepth 100000 in
set_option maxHeartbeats 4000000 in
theorem current_any (e : Eng) (v0 v1 v2 v3 : Value) (n : Nat) (x : Actn) (t : Slt) (w : World) (h : SG w v0 v1 v2 v3 e) (hs : entsOk 1 e.base = true) (hx : e.acts[n]? = some x) (hxo : x.ok = true) (ht : e.sl[n]? = some t)
    (h1 : t.e.r.length = x.rk.length) (h2 : t.f.length = x.rk.length) (h3 : ∀ (i : Nat) y k, t.e.r[i]? = some y → x.rk[i]? = some k → y.k = k) :
    Calls Try.prog 118 #[.agg #[v0, v1, v2, v3], .int .i64 n] w fun ed w' => ed = .returned (.bool (curOk e.base e.vers n t)) ∧ Up w w' := by
  have HG := Lib.hid h
  have HC := Lib.hid (cur_split (s := e.base) (V := e.vers) (n := (n : Int)) h1 h2 h3)
  obtain ⟨p0, c0, rfl, _, _⟩ := h.base.openc
  obtain ⟨p1, c1, rfl, _, _⟩ := h.acts.openc
  obtain ⟨p2, c2, rfl, _, _⟩ := h.vers.openc
  obtain ⟨p3, c3, rfl, _, hcs⟩ := h.sl.open
  obtain ⟨b, off, q0, d0, q1, d1, q2, d2, rfl, hb, ⟨e0, e1, e2, e3, e4, e5⟩, sf, sr, sw⟩ := hcs n t ht
  have know := fun w (h : SG w (.slice p0 e.base.length c0) (.slice p1 e.acts.length c1) (.slice p2 e.vers.length c2) (.slice (some ⟨b, off, none⟩) e.sl.length c3) e) => now_any e _ _ _ _ n x w h hs hx hxo
  have hn0 : (0 : Int) ≤ (n : Int) := by omega
  have hn1 : (n : Int) < e.sl.length := by have := (List.getElem?_eq_some_iff.1 ht).1; omega
  have Hs := Lib.hid hs
  have hkeys := Lib.hid (show ∀ (i : Nat) y, t.e.r[i]? = some y → y.k ∈ x.rk ∧ 0 ≤ y.k ∧ y.k ≤ 31 by
    intro i y hy
    obtain ⟨k, hk⟩ := getElem?_some_of_lt (l := x.rk) (k := i) (by have := (List.getElem?_eq_some_iff.1 hy).1; omega)
    rw [h3 i y k hy hk]
    have hm := List.mem_of_getElem? hk
    exact ⟨hm, Actn.rk_in hxo k hm⟩)
  obtain ⟨_, _, e9, _, hcr⟩ := sr.open
  cases e9
  have HCR := Lib.hid hcr; have HSF := Lib.hid sf
  have hVl := Lib.hid (show (vsets (valsOf e.base) (nowL e.base e.vers n x.rk)).length = 32 by rw [vsets_length, valsOf_length])
  have hVg := Lib.hid (show ∀ k ∈ x.rk, 0 ≤ k ∧ k ≤ 31 → (vsets (valsOf e.base) (nowL e.base e.vers n x.rk))[k.toNat]? = some (readV (atK e.base k) e.vers k n).1 by
    intro k hk hkr
    have := vsets_fun (fun k => (readV (atK e.base k) e.vers k n).1) x.rk (valsOf e.base) k.toNat (fun k hk => (Actn.rk_in hxo k hk).1) (by rw [valsOf_length]; omega)
    rw [show ((k.toNat : Nat) : Int) = k from by omega, if_pos hk] at this
    exact this)
  have hrl : t.e.r.length ≤ 2 := by rw [h1]; exact Actn.rk_le x
  have keq := fun v w h h' => eqInts_any (nowF e.base e.vers n x.rk) t.f v (.slice q0 t.f.length d0) w h h'
  rw [HC.out]
  clear h hs hx hxo ht h1 h2 h3 hcs sf sr sw hcr HC
  generalize vsets (valsOf e.base) (nowL e.base e.vers n x.rk) = V at *
  generalize nowF e.base e.vers n x.rk = F at *
  generalize sameL sameI1 F t.f = bF at *
  have tok1 : True := trivial
  go_enter Try.func118, Try.ntmps118
  go_wp2_with (first | ((go_at_call 157; refine (know _ (HG.out.up (by repeat (first | (with_reducible exact Ext.refl _) | (with_reducible refine Ext.up ?_ _) | (with_reducible refine Ext.alloc ?_ _) | (with_reducible refine Ext.drew ?_) | (with_reducible refine Ext.setRow ?_ (by first | exact LeS.le | exact LeS.add _ | (simp; done) | (simp; omega)) _) | (with_reducible refine Ext.setCell ?_ (by first | exact LeS.le | exact LeS.add _ | (simp; done) | (simp; omega)) _))))).mono ?_; rintro e w' ⟨vf, rfl, ⟨z3, rfl⟩, of⟩); obtain ⟨pf, cf, rfl, _, _⟩ := (of.sl encI_length).openc) | (have _t := tok1; refine wpList_store_new rfl _ _ _ rfl rfl rfl rfl (by rw [hVl.out]; exact Try.sVals) (by rw [hVl.out]; rfl) ?_; intro z4 r4; clear _t tok1))
  have OF := Lib.hid (of.sl encI_length); have R4 := Lib.hid r4
  clear of r4 know
  go_loopw [8, 23] (fun _ s23 wr => ∃ (k : Nat), s23 = .int .i64 k ∧ k ≤ t.e.r.length ∧ Up z4.val wr ∧ upTo (valAt e.base e.vers n t.e.r) k = true) (fun _ s23 _ => t.e.r.length - (intOf s23).toNat)
  case atStart => exact ⟨0, rfl, Nat.zero_le _, (.of (by repeat (first | (with_reducible exact Ext.refl _) | (with_reducible refine Ext.up ?_ _) | (with_reducible refine Ext.alloc ?_ _) | (with_reducible refine Ext.drew ?_) | (with_reducible refine Ext.setRow ?_ (by first | exact LeS.le | exact LeS.add _ | (simp; done) | (simp; omega)) _) | (with_reducible refine Ext.setCell ?_ (by first | exact LeS.le | exact LeS.add _ | (simp; done) | (simp; omega)) _)))), rfl⟩
  case round =>
    obtain ⟨k, rfl, hk, ⟨z, rfl⟩, hall⟩ := hrel
    have HALL := Lib.hid hall; clear hall
    by_cases hlt : k < t.e.r.length
    · obtain ⟨y, hy⟩ := getElem?_some_of_lt hlt
      obtain ⟨hm, k0, k31⟩ := hkeys.out k y hy
      obtain ⟨g, fo, rfl, hbg, hcc⟩ := HCR.out k y hy
      have y0 : w.cell? ⟨g, fo + k * 2, none⟩ = some (.int .i64 y.k) := hcc 0 _ rfl
      have y1 : w.cell? ⟨g, fo + k * 2 + 1, none⟩ = some (.int .i64 y.v) := hcc 1 _ rfl
      have dv := R4.out.cell (hVg.out y.k hm ⟨k0, k31⟩)
      have hL4 := R4.out.lts
      have Hat := Lib.hid (valAt_eq (s := e.base) (V := e.vers) (n := (n : Int)) hy)
      generalize (readV (atK e.base y.k) e.vers y.k n).1 = c at *
      have k2 : y.k < 32 := by omega
      have kk0 : (0 : Int) ≤ (k : Int) := by omega
      have kk1 : (k : Int) < t.e.r.length := by omega
      clear hcc hy hm
      rcases hcv : (c == y.v) with _ | _
      · have hcv' : (c != y.v) = true := by rw [bne, hcv]; rfl
        have Hf := Lib.hid (upTo_false (f := valAt e.base e.vers n t.e.r) hlt (by rw [Hat.out, hcv]))
        go_wp2_with fail
        (refine wp_region_up (by kernel_rfl) (by kernel_rfl) ?_; (repeat (go_big_quiet_step (fail))); refine wpQuiet_nil ?_; intro _ hw'; obtain ⟨zq, hw''⟩ := hw'; subst hw'')
        go_wp2_with fail
        go_ret
        exact ⟨by rw [Hf.out]; rfl, (.of (by repeat (first | (with_reducible exact Ext.refl _) | (with_reducible refine Ext.up ?_ _) | (with_reducible refine Ext.alloc ?_ _) | (with_reducible refine Ext.drew ?_) | (with_reducible refine Ext.setRow ?_ (by first | exact LeS.le | exact LeS.add _ | (simp; done) | (simp; omega)) _) | (with_reducible refine Ext.setCell ?_ (by first | exact LeS.le | exact LeS.add _ | (simp; done) | (simp; omega)) _))))⟩
      · have hcv' : (c != y.v) = false := by rw [bne, hcv]; rfl
        go_wp2_with fail
        (refine wp_region_up (by kernel_rfl) (by kernel_rfl) ?_; (repeat (go_big_quiet_step (fail))); refine wpQuiet_nil ?_; intro _ hw'; obtain ⟨zq, hw''⟩ := hw'; subst hw'')
        go_wp2_with fail
        go_roundw
        case rel => exact ⟨k + 1, by go_num, by omega, (.of (by repeat (first | (with_reducible exact Ext.refl _) | (with_reducible refine Ext.up ?_ _) | (with_reducible refine Ext.alloc ?_ _) | (with_reducible refine Ext.drew ?_) | (with_reducible refine Ext.setRow ?_ (by first | exact LeS.le | exact LeS.add _ | (simp; done) | (simp; omega)) _) | (with_reducible refine Ext.setCell ?_ (by first | exact LeS.le | exact LeS.add _ | (simp; done) | (simp; omega)) _)))), upTo_succ HALL.out (by rw [Hat.out, hcv])⟩
        case measure => simp [intOf] <;> omega
    · obtain rfl : k = t.e.r.length := by omega
      go_wp2_with fail
      refine (keq _ _ (OF.out.up (by repeat (first | (with_reducible exact Ext.refl _) | (with_reducible refine Ext.up ?_ _) | (with_reducible refine Ext.alloc ?_ _) | (with_reducible refine Ext.drew ?_) | (with_reducible refine Ext.setRow ?_ (by first | exact LeS.le | exact LeS.add _ | (simp; done) | (simp; omega)) _) | (with_reducible refine Ext.setCell ?_ (by first | exact LeS.le | exact LeS.add _ | (simp; done) | (simp; omega)) _)))) (HSF.out.up (by repeat (first | (with_reducible exact Ext.refl _) | (with_reducible refine Ext.up ?_ _) | (with_reducible refine Ext.alloc ?_ _) | (with_reducible refine Ext.drew ?_) | (with_reducible refine Ext.setRow ?_ (by first | exact LeS.le | exact LeS.add _ | (simp; done) | (simp; omega)) _) | (with_reducible refine Ext.setCell ?_ (by first | exact LeS.le | exact LeS.add _ | (simp; done) | (simp; omega)) _))))).mono ?_; rintro ed w' ⟨rfl, ⟨z9, rfl⟩⟩
      go_wp2_with fail
      go_ret
      exact ⟨by rw [HALL.out]; rfl, (.of (by repeat (first | (with_reducible exact Ext.refl _) | (with_reducible refine Ext.up ?_ _) | (with_reducible refine Ext.alloc ?_ _) | (with_reducible refine Ext.drew ?_) | (with_reducible refine Ext.setRow ?_ (by first | exact LeS.le | exact LeS.add _ | (simp; done) | (simp; omega)) _) | (with_reducible refine Ext.setCell ?_ (by first | exact LeS.le | exact LeS.add _ | (simp; done) | (simp; omega)) _))))⟩
end Go.Proofs.Ytkboefmkfpnpjaa
namespace Go.Proofs.Ytkboefmkfpnpjaa
open Go Go.RowKit Go.Proofs

set_option maxRecDepth 100000 in
set_option maxHeartbeats 4000000 in
theorem slotRight_any (e : Eng) (v0 v1 v2 v3 : Value) (n : Nat) (x : Actn) (t : Slt) (w : World) (h : SG w v0 v1 v2 v3 e) (hx : e.acts[n]? = some x) (hxo : x.ok = true) (ht : e.sl[n]? = some t) (hn10 : n ≤ 1000) :
    Calls Try.prog 116 #[.agg #[v0, v1, v2, v3], .int .i64 n] w fun ed w' => ed = .returned (.bool (sltOk x n t)) ∧ Up w w' := by
  obtain ⟨p0, c0, rfl, _, _⟩ := h.base.openc
  obtain ⟨p1, c1, rfl, _, hca⟩ := h.acts.open
  obtain ⟨p2, c2, rfl, _, _⟩ := h.vers.openc
  obtain ⟨p3, c3, rfl, _, hcs⟩ := h.sl.open
  obtain ⟨ba, oa, rfl, hba, -⟩ := hca n x hx
  obtain ⟨a0, a1, a2, a3⟩ := acell hca rfl hx
  obtain ⟨b, off, q0, d0, q1, d1, q2, d2, rfl, hb, ⟨e0, e1, e2, e3, e4, e5⟩, sf, sr, sw⟩ := hcs n t ht
  have hn0 : (0 : Int) ≤ (n : Int) := by omega
  have hn1 : (n : Int) < e.sl.length := by have := (List.getElem?_eq_some_iff.1 ht).1; omega
  have hn2 : (n : Int) < e.acts.length := by have := (List.getElem?_eq_some_iff.1 hx).1; omega
  have SF := Lib.hid sf; have SR := Lib.hid sr; have SW := Lib.hid sw
  have kre := fun w => reads_any x w
  have Hxo := Lib.hid hxo
  clear h hca hcs hx hxo ht sf sr sw
  by_cases hst : t.st = 0
  · have hst' : (t.st == 0) = true := by simpa using hst
    have hF := Lib.hid (show sltOk x n t = (inR t.tr 0 1000 && (decide (t.f.length = 0) && sameEf t.e ⟨false, [], []⟩)) by unfold sltOk; rw [if_pos hst]; rfl)
    generalize sltOk x n t = B at *
    have kin := fun w => in_any t.tr 0 1000 w
    have ksm := fun w h h' => iSameEf_any t.e ⟨false, [], []⟩ (.slice q1 t.e.r.length d1) (.slice q2 t.e.w.length d2) (.slice none 0 0) (.slice none 0 0) w h h' (SL.nil _ _ _ _ _) (SL.nil _ _ _ _ _)
    dsimp only at ksm
    generalize sameEf t.e ⟨false, [], []⟩ = b3 at *
    generalize inR t.tr 0 1000 = b1 at *
    clear hst kre
    rcases b1 with _ | _
    · obtain rfl : B = false := hF.out
      go_enter Try.func116, Try.ntmps116
      go_wp2_with fail
      refine (kin _).mono ?_; rintro ed w' ⟨rfl, rfl⟩
      go_wp2_with fail
      go_ret
      exact ⟨rfl, (.of (by repeat (first | (with_reducible exact Ext.refl _) | (with_reducible refine Ext.up ?_ _) | (with_reducible refine Ext.alloc ?_ _) | (with_reducible refine Ext.drew ?_) | (with_reducible refine Ext.setRow ?_ (by first | exact LeS.le | exact LeS.add _ | (simp; done) | (simp; omega)) _) | (with_reducible refine Ext.setCell ?_ (by first | exact LeS.le | exact LeS.add _ | (simp; done) | (simp; omega)) _))))⟩
    by_cases hf : t.f.length = 0
    rotate_left
    · have hf' : ((t.f.length : Int) == 0) = false := by rw [beq_eq_false_iff_ne]; omega
      obtain rfl : B = false := by have := hF.out; rwa [decide_eq_false hf] at this
      clear hf
      go_enter Try.func116, Try.ntmps116
      go_wp2_with fail
      refine (kin _).mono ?_; rintro ed w' ⟨rfl, rfl⟩
      go_wp2_with fail
      go_ret
      exact ⟨rfl, (.of (by repeat (first | (with_reducible exact Ext.refl _) | (with_reducible refine Ext.up ?_ _) | (with_reducible refine Ext.alloc ?_ _) | (with_reducible refine Ext.drew ?_) | (with_reducible refine Ext.setRow ?_ (by first | exact LeS.le | exact LeS.add _ | (simp; done) | (simp; omega)) _) | (with_reducible refine Ext.setCell ?_ (by first | exact LeS.le | exact LeS.add _ | (simp; done) | (simp; omega)) _))))⟩
    have hf' : ((t.f.length : Int) == 0) = true := by rw [beq_iff_eq]; omega
    obtain rfl : B = b3 := by have := hF.out; rw [decide_eq_true hf] at this; simpa using this
    clear hf hF
    go_enter Try.func116, Try.ntmps116
    go_wp2_with fail
    refine (kin _).mono ?_; rintro ed w' ⟨rfl, rfl⟩
    go_wp2_with fail
    refine (ksm _ (SR.out.up (by repeat (first | (with_reducible exact Ext.refl _) | (with_reducible refine Ext.up ?_ _) | (with_reducible refine Ext.alloc ?_ _) | (with_reducible refine Ext.drew ?_) | (with_reducible refine Ext.setRow ?_ (by first | exact LeS.le | exact LeS.add _ | (simp; done) | (simp; omega)) _) | (with_reducible refine Ext.setCell ?_ (by first | exact LeS.le | exact LeS.add _ | (simp; done) | (simp; omega)) _)))) (SW.out.up (by repeat (first | (with_reducible exact Ext.refl _) | (with_reducible refine Ext.up ?_ _) | (with_reducible refine Ext.alloc ?_ _) | (with_reducible refine Ext.drew ?_) | (with_reducible refine Ext.setRow ?_ (by first | exact LeS.le | exact LeS.add _ | (simp; done) | (simp; omega)) _) | (with_reducible refine Ext.setCell ?_ (by first | exact LeS.le | exact LeS.add _ | (simp; done) | (simp; omega)) _))))).mono ?_; rintro ed w' ⟨rfl, ⟨z1, rfl⟩⟩
    go_wp2_with fail
    go_ret
    exact ⟨rfl, (.of (by repeat (first | (with_reducible exact Ext.refl _) | (with_reducible refine Ext.up ?_ _) | (with_reducible refine Ext.alloc ?_ _) | (with_reducible refine Ext.drew ?_) | (with_reducible refine Ext.setRow ?_ (by first | exact LeS.le | exact LeS.add _ | (simp; done) | (simp; omega)) _) | (with_reducible refine Ext.setCell ?_ (by first | exact LeS.le | exact LeS.add _ | (simp; done) | (simp; omega)) _))))⟩
  have hst' : (t.st == 0) = false := by simpa using hst
  have hF := Lib.hid (show sltOk x n t = sltTry x n t by unfold sltOk; rw [if_neg hst])
  clear hst
  have kin1 := fun w => in_any t.st 1 2 w
  have kin2 := fun w => in_any t.tr 1 1000 w
  have hE := Lib.hid (show sltTry x n t = (inR t.st 1 2 && (inR t.tr 1 1000 && (decide (t.e.r.length = x.rk.length) && (decide (t.f.length = x.rk.length) && (upTo (rdAt x.rk n t.f t.e.r) t.e.r.length && sameEf (runV (vsets zeros t.e.r) x) t.e))))) from rfl)
  rw [hF.out]
  clear hF
  generalize sltTry x n t = B at *
  go_enter Try.func116, Try.ntmps116
  go_wp2_with fail
  refine (kre _).mono ?_; rintro ed w' ⟨vk, rfl, ⟨z1, rfl⟩, ok⟩
  obtain ⟨pk, ck, rfl, hkl, hck⟩ := (ok.sl encI_length).open
  have HCK := Lib.hid hck
  clear ok hck kre
  rcases guards4 (inR t.st 1 2) (inR t.tr 1 1000) (decide (t.e.r.length = x.rk.length)) (decide (t.f.length = x.rk.length)) with g1 | ⟨g1, g2⟩ | ⟨g1, g2, g3⟩ | ⟨g1, g2, g3, g4⟩ | ⟨g1, g2, g3, g4⟩
  · rw [g1] at kin1 hE
    obtain rfl : B = false := hE.out
    clear g1
    go_wp2_with fail
    refine (kin1 _).mono ?_; rintro ed w' ⟨rfl, rfl⟩
    go_wp2_with fail
    go_ret
    exact ⟨rfl, (.of (by repeat (first | (with_reducible exact Ext.refl _) | (with_reducible refine Ext.up ?_ _) | (with_reducible refine Ext.alloc ?_ _) | (with_reducible refine Ext.drew ?_) | (with_reducible refine Ext.setRow ?_ (by first | exact LeS.le | exact LeS.add _ | (simp; done) | (simp; omega)) _) | (with_reducible refine Ext.setCell ?_ (by first | exact LeS.le | exact LeS.add _ | (simp; done) | (simp; omega)) _))))⟩
  · rw [g1] at kin1 hE; rw [g2] at kin2 hE
    obtain rfl : B = false := hE.out
    clear g1 g2
    go_wp2_with fail
    refine (kin1 _).mono ?_; rintro ed w' ⟨rfl, rfl⟩
    go_wp2_with fail
    refine (kin2 _).mono ?_; rintro ed w' ⟨rfl, rfl⟩
    go_wp2_with fail
    go_ret
    exact ⟨rfl, (.of (by repeat (first | (with_reducible exact Ext.refl _) | (with_reducible refine Ext.up ?_ _) | (with_reducible refine Ext.alloc ?_ _) | (with_reducible refine Ext.drew ?_) | (with_reducible refine Ext.setRow ?_ (by first | exact LeS.le | exact LeS.add _ | (simp; done) | (simp; omega)) _) | (with_reducible refine Ext.setCell ?_ (by first | exact LeS.le | exact LeS.add _ | (simp; done) | (simp; omega)) _))))⟩
  · rw [g1] at kin1 hE; rw [g2] at kin2 hE; rw [g3] at hE
    obtain rfl : B = false := hE.out
    have g3' : ((t.e.r.length : Int) != (x.rk.length : Int)) = true := by rw [bne_iff_ne]; have := of_decide_eq_false g3; omega
    clear g1 g2 g3
    go_wp2_with fail
    refine (kin1 _).mono ?_; rintro ed w' ⟨rfl, rfl⟩
    go_wp2_with fail
    refine (kin2 _).mono ?_; rintro ed w' ⟨rfl, rfl⟩
    go_wp2_with fail
    go_ret
    exact ⟨rfl, (.of (by repeat (first | (with_reducible exact Ext.refl _) | (with_reducible refine Ext.up ?_ _) | (with_reducible refine Ext.alloc ?_ _) | (with_reducible refine Ext.drew ?_) | (with_reducible refine Ext.setRow ?_ (by first | exact LeS.le | exact LeS.add _ | (simp; done) | (simp; omega)) _) | (with_reducible refine Ext.setCell ?_ (by first | exact LeS.le | exact LeS.add _ | (simp; done) | (simp; omega)) _))))⟩
  · rw [g1] at kin1 hE; rw [g2] at kin2 hE; rw [g3, g4] at hE
    obtain rfl : B = false := hE.out
    have g3' : ((t.e.r.length : Int) != (x.rk.length : Int)) = false := by rw [bne_eq_false_iff_eq]; have := of_decide_eq_true g3; omega
    have g4' : ((t.f.length : Int) != (x.rk.length : Int)) = true := by rw [bne_iff_ne]; have := of_decide_eq_false g4; omega
    clear g1 g2 g3 g4
    go_wp2_with fail
    refine (kin1 _).mono ?_; rintro ed w' ⟨rfl, rfl⟩
    go_wp2_with fail
    refine (kin2 _).mono ?_; rintro ed w' ⟨rfl, rfl⟩
    go_wp2_with fail
    go_ret
    exact ⟨rfl, (.of (by repeat (first | (with_reducible exact Ext.refl _) | (with_reducible refine Ext.up ?_ _) | (with_reducible refine Ext.alloc ?_ _) | (with_reducible refine Ext.drew ?_) | (with_reducible refine Ext.setRow ?_ (by first | exact LeS.le | exact LeS.add _ | (simp; done) | (simp; omega)) _) | (with_reducible refine Ext.setCell ?_ (by first | exact LeS.le | exact LeS.add _ | (simp; done) | (simp; omega)) _))))⟩
  rw [g1] at kin1 hE; rw [g2] at kin2 hE; rw [g3, g4] at hE
  have h3 := Lib.hid (of_decide_eq_true g3); have h4 := Lib.hid (of_decide_eq_true g4)
  obtain rfl : B = (upTo (rdAt x.rk n t.f t.e.r) t.e.r.length && sameEf (runV (vsets zeros t.e.r) x) t.e) := hE.out
  have g3' : ((t.e.r.length : Int) != (x.rk.length : Int)) = false := by rw [bne_eq_false_iff_eq]; have := of_decide_eq_true g3; omega
  have g4' : ((t.f.length : Int) != (x.rk.length : Int)) = false := by rw [bne_eq_false_iff_eq]; have := of_decide_eq_true g4; omega
  have hrl : t.e.r.length ≤ 2 := by rw [h3.out]; exact Actn.rk_le x
  obtain ⟨_, _, e9, _, hcr⟩ := SR.out.open
  cases e9
  obtain ⟨_, _, e9, _, hcf⟩ := SF.out.open
  cases e9
  have HCR := Lib.hid hcr; have HCF := Lib.hid hcf
  clear g1 g2 g3 g4 hE hcr hcf
  go_wp2_with fail
  refine (kin1 _).mono ?_; rintro ed w' ⟨rfl, rfl⟩
  go_wp2_with fail
  refine (kin2 _).mono ?_; rintro ed w' ⟨rfl, rfl⟩
  clear kin1 kin2
  have hnw : IntKind.i64.wrap ((n : Int) - 1) = (n : Int) - 1 := IntWalk.i64_in _ ⟨by omega, by omega⟩
  go_wp2_with fail
  go_loopw [8, 9, 70] (fun _ _ s70 wr => ∃ (k : Nat), s70 = .int .i64 k ∧ k ≤ t.e.r.length ∧ Up z1.val wr ∧ Row 99 wr z1.val.heap.size (vsets zeros (t.e.r.take k)) ∧ upTo (rdAt x.rk n t.f t.e.r) k = true) (fun _ _ s70 _ => t.e.r.length - (intOf s70).toNat)
  case atStart => exact ⟨0, rfl, Nat.zero_le _, (.of (by repeat (first | (with_reducible exact Ext.refl _) | (with_reducible refine Ext.up ?_ _) | (with_reducible refine Ext.alloc ?_ _) | (with_reducible refine Ext.drew ?_) | (with_reducible refine Ext.setRow ?_ (by first | exact LeS.le | exact LeS.add _ | (simp; done) | (simp; omega)) _) | (with_reducible refine Ext.setCell ?_ (by first | exact LeS.le | exact LeS.add _ | (simp; done) | (simp; omega)) _)))), Row.of_eq (heap_alloc_new _ _) vA_zeros.symm, rfl⟩
  case round =>
    obtain ⟨k, rfl, hk, ⟨z, rfl⟩, r7, hall⟩ := hrel
    have HALL := Lib.hid hall
    by_cases hlt : k < t.e.r.length
    · clear hall
      obtain ⟨y, hy⟩ := getElem?_some_of_lt hlt
      obtain ⟨key, hkey⟩ := getElem?_some_of_lt (l := x.rk) (k := k) (by rw [← h3.out]; exact hlt)
      obtain ⟨q, hq⟩ := getElem?_some_of_lt (l := t.f) (k := k) (by rw [h4.out, ← h3.out]; exact hlt)
      obtain ⟨kk0, kk1⟩ := Actn.rk_in Hxo.out key (List.mem_of_getElem? hkey)
      have Hat := Lib.hid (rdAt_eq (n := (n : Int)) hy hkey hq)
      obtain ⟨g, fo, rfl, hbg, hcc⟩ := HCR.out k y hy
      obtain ⟨g2, fo2, rfl, hbg2, hcc2⟩ := HCK.out k key hkey
      obtain ⟨g5, fo5, rfl, hbg5, hcc5⟩ := HCF.out k q hq
      have y0 : w.cell? ⟨g, fo + k * 2, none⟩ = some (.int .i64 y.k) := hcc 0 _ rfl
      have y1 : w.cell? ⟨g, fo + k * 2 + 1, none⟩ = some (.int .i64 y.v) := hcc 1 _ rfl
      have y2 : z1.val.cell? ⟨g2, fo2 + k, none⟩ = some (.int .i64 key) := by have := hcc2 0 _ rfl; simpa using this
      have y3 : w.cell? ⟨g5, fo5 + k, none⟩ = some (.int .i64 q) := by have := hcc5 0 _ rfl; simpa using this
      have Hsn := Lib.hid (vsets_snoc zeros hy)
      obtain ⟨u, hu⟩ := getElem?_some_of_lt (l := vsets zeros (t.e.r.take k)) (k := key.toNat) (by rw [vsets_length, zeros_length]; omega)
      have d7 := r7.cell hu
      have f7 := r7.frozen key.toNat
      have hL7 := r7.lts
      have R7 := Lib.hid r7
      have kk2 : key < 32 := by omega
      have ka0 : (0 : Int) ≤ (k : Int) := by omega
      have ka1 : (k : Int) < t.e.r.length := by omega
      have ka2 : (k : Int) < x.rk.length := by rw [← h3.out]; exact ka1
      have ka3 : (k : Int) < t.f.length := by rw [h4.out, ← h3.out]; exact ka1
      have kv := fun w => isValue_any y.v w
      have ki := fun w => in_any q (-1) ((n : Int) - 1) w
      clear hy hkey hq hcc hcc2 hcc5 hu r7
      rcases guards3 (y.k == key) (inR y.v 0 1000000) (inR q (-1) ((n : Int) - 1)) with g1 | ⟨g1, g2'⟩ | ⟨g1, g2', g3'⟩ | ⟨g1, g2', g3'⟩
      · have g1' : (y.k != key) = true := by rw [bne, g1]; rfl
        have Hf := Lib.hid (upTo_false (f := rdAt x.rk n t.f t.e.r) hlt (by rw [Hat.out, g1]; rfl))
        clear g1
        go_wp2_with fail
        (refine wp_region_up (by kernel_rfl) (by kernel_rfl) ?_; (repeat (go_big_quiet_step (fail))); refine wpQuiet_nil ?_; intro _ hw'; obtain ⟨zq, hw''⟩ := hw'; subst hw'')
        go_wp2_with fail
        go_ret
        exact ⟨by rw [Hf.out]; rfl, (.of (by repeat (first | (with_reducible exact Ext.refl _) | (with_reducible refine Ext.up ?_ _) | (with_reducible refine Ext.alloc ?_ _) | (with_reducible refine Ext.drew ?_) | (with_reducible refine Ext.setRow ?_ (by first | exact LeS.le | exact LeS.add _ | (simp; done) | (simp; omega)) _) | (with_reducible refine Ext.setCell ?_ (by first | exact LeS.le | exact LeS.add _ | (simp; done) | (simp; omega)) _))))⟩
      · have g1' : (y.k != key) = false := by rw [bne, g1]; rfl
        have Hf := Lib.hid (upTo_false (f := rdAt x.rk n t.f t.e.r) hlt (by rw [Hat.out, g1, g2']; rfl))
        rw [g2'] at kv
        clear g1 g2'
        go_wp2_with fail
        (refine wp_region_up (by kernel_rfl) (by kernel_rfl) ?_; (repeat (go_big_quiet_step ((go_at_call 98; exact Calls.up_same (kv _))))); refine wpQuiet_nil ?_; intro _ hw'; obtain ⟨zq, hw''⟩ := hw'; subst hw'')
        go_wp2_with fail
        go_ret
        exact ⟨by rw [Hf.out]; rfl, (.of (by repeat (first | (with_reducible exact Ext.refl _) | (with_reducible refine Ext.up ?_ _) | (with_reducible refine Ext.alloc ?_ _) | (with_reducible refine Ext.drew ?_) | (with_reducible refine Ext.setRow ?_ (by first | exact LeS.le | exact LeS.add _ | (simp; done) | (simp; omega)) _) | (with_reducible refine Ext.setCell ?_ (by first | exact LeS.le | exact LeS.add _ | (simp; done) | (simp; omega)) _))))⟩
      · have g1' : (y.k != key) = false := by rw [bne, g1]; rfl
        have Hf := Lib.hid (upTo_false (f := rdAt x.rk n t.f t.e.r) hlt (by rw [Hat.out, g1, g2', g3']; rfl))
        rw [g2'] at kv; rw [g3'] at ki
        clear g1 g2' g3'
        go_wp2_with fail
        (refine wp_region_up (by kernel_rfl) (by kernel_rfl) ?_; (repeat (go_big_quiet_step (first | (go_at_call 98; exact Calls.up_same (kv _)) | (go_at_call 88; exact Calls.up_same (ki _))))); refine wpQuiet_nil ?_; intro _ hw'; obtain ⟨zq, hw''⟩ := hw'; subst hw'')
        go_wp2_with fail
        go_ret
        exact ⟨by rw [Hf.out]; rfl, (.of (by repeat (first | (with_reducible exact Ext.refl _) | (with_reducible refine Ext.up ?_ _) | (with_reducible refine Ext.alloc ?_ _) | (with_reducible refine Ext.drew ?_) | (with_reducible refine Ext.setRow ?_ (by first | exact LeS.le | exact LeS.add _ | (simp; done) | (simp; omega)) _) | (with_reducible refine Ext.setCell ?_ (by first | exact LeS.le | exact LeS.add _ | (simp; done) | (simp; omega)) _))))⟩
      · have g1' : (y.k != key) = false := by rw [bne, g1]; rfl
        obtain rfl : y.k = key := by simpa using g1
        have Ht := Lib.hid (upTo_succ (f := rdAt x.rk n t.f t.e.r) HALL.out (by rw [Hat.out, g2', g3']; simp))
        rw [g2'] at kv; rw [g3'] at ki
        clear g1 g2' g3'
        go_wp2_with fail
        (refine wp_region_up (by kernel_rfl) (by kernel_rfl) ?_; (repeat (go_big_quiet_step (first | (go_at_call 98; exact Calls.up_same (kv _)) | (go_at_call 88; exact Calls.up_same (ki _))))); refine wpQuiet_nil ?_; intro _ hw'; obtain ⟨zq, hw''⟩ := hw'; subst hw'')
        go_wp2_with fail
        go_roundw
        case rel => exact ⟨k + 1, by go_num, by omega, (.of (by repeat (first | (with_reducible exact Ext.refl _) | (with_reducible refine Ext.up ?_ _) | (with_reducible refine Ext.alloc ?_ _) | (with_reducible refine Ext.drew ?_) | (with_reducible refine Ext.setRow ?_ (by first | exact LeS.le | exact LeS.add _ | (simp; done) | (simp; omega)) _) | (with_reducible refine Ext.setCell ?_ (by first | exact LeS.le | exact LeS.add _ | (simp; done) | (simp; omega)) _)))), by rw [Hsn.out]; exact ((R7.out.up (by repeat (first | (with_reducible exact Ext.refl _) | (with_reducible refine Ext.up ?_ _) | (with_reducible refine Ext.alloc ?_ _) | (with_reducible refine Ext.drew ?_) | (with_reducible refine Ext.setRow ?_ (by first | exact LeS.le | exact LeS.add _ | (simp; done) | (simp; omega)) _) | (with_reducible refine Ext.setCell ?_ (by first | exact LeS.le | exact LeS.add _ | (simp; done) | (simp; omega)) _)))).set _ _), Ht.out⟩
        case measure => simp [intOf] <;> omega
    · obtain rfl : k = t.e.r.length := by omega
      rw [List.take_length] at r7
      have hVl := Lib.hid (show (vsets zeros t.e.r).length = 32 by rw [vsets_length, zeros_length])
      have hVi : valsIn (vsets zeros t.e.r) := by
        refine valsIn_vsets (fun y hy => ?_) ⟨zeros_length, fun z hz => by have := List.eq_of_mem_replicate hz; omega⟩
        obtain ⟨i, hi⟩ := List.getElem?_of_mem hy
        have hil := (List.getElem?_eq_some_iff.1 hi).1
        obtain ⟨k, hk⟩ := getElem?_some_of_lt (l := x.rk) (k := i) (by rw [← h3.out]; exact hil)
        obtain ⟨q, hq⟩ := getElem?_some_of_lt (l := t.f) (k := i) (by rw [h4.out, ← h3.out]; exact hil)
        have := upTo_iff.1 hall i hil
        rw [rdAt_eq hi hk hq] at this
        simp only [Bool.and_eq_true, inR_iff] at this
        omega
      have krun := fun w => run_any x (vsets zeros t.e.r) w hVl.out hVi Hxo.out
      generalize hEq : runV (vsets zeros t.e.r) x = E at krun
      have HEq := Lib.hid hEq; clear hEq
      have R7 := Lib.hid r7
      clear r7 hall hVi
      go_upto_region 15 with fail
      refine wp_region_held_drew (S := (fun w' => (∀ n i, ∀ [LtS n z.val], w'.cell? ⟨n, i, none⟩ = World.cell? z.val ⟨n, i, none⟩) ∧ Ext z.val w')) (by kernel_rfl) ?_ (fun hHeld => ?_)
      · (try dsimp only)
        refine S_of_ext ?_
        repeat (first | exact Ext.refl _ | refine Ext.up ?_ _ | refine Ext.alloc ?_ _ | refine Ext.drew ?_ | refine Ext.setRow ?_ (by first | (dsimp only; omega) | exact LeS.le | exact LeS.add _ | (simp; done) | (simp; omega)) _ | refine Ext.setCell ?_ (by first | (dsimp only; omega) | exact LeS.le | exact LeS.add _ | (simp; done) | (simp; omega)) _)
      refine wpAnyH_take (i := 0) (v := ?_) (opAt rfl) (by kernel_rfl) (by kernel_rfl) (by kernel_rfl) (fun _ _ _ h => h) (Or.inl ⟨by rfl, ?_⟩) (by assumption) ?_
      rotate_left
      · (intro w hSw; (try dsimp only at hSw); go_simp) <;> with_reducible rfl
      try simp only [Act.put, List.setIfInBounds_toArray, List.set_cons_zero, List.set_cons_succ]
      refine wpAnyH_take (i := 1) (v := ?_) (opAt rfl) (by kernel_rfl) (by kernel_rfl) (by kernel_rfl) (fun _ _ _ h => h) (Or.inl ⟨by rfl, ?_⟩) (by assumption) ?_
      rotate_left
      · (intro w hSw; (try dsimp only at hSw); go_simp) <;> with_reducible rfl
      try simp only [Act.put, List.setIfInBounds_toArray, List.set_cons_zero, List.set_cons_succ]
      refine wpAnyH_take (i := 2) (v := ?_) (opAt rfl) (by kernel_rfl) (by kernel_rfl) (by kernel_rfl) (fun _ _ _ h => h) (Or.inl ⟨by rfl, ?_⟩) (by assumption) ?_
      rotate_left
      · (intro w hSw; (try dsimp only at hSw); go_simp) <;> with_reducible rfl
      try simp only [Act.put, List.setIfInBounds_toArray, List.set_cons_zero, List.set_cons_succ]
      refine wpAnyH_take (i := 3) (v := ?_) (opAt rfl) (by kernel_rfl) (by kernel_rfl) (by kernel_rfl) (fun _ _ _ h => h) (Or.inl ⟨by rfl, ?_⟩) (by assumption) ?_
      rotate_left
      · (intro w hSw; (try dsimp only at hSw); go_simp) <;> with_reducible rfl
      try simp only [Act.put, List.setIfInBounds_toArray, List.set_cons_zero, List.set_cons_succ]
      refine wpAnyH_take (i := 4) (v := ?_) (opAt rfl) (by kernel_rfl) (by kernel_rfl) (by kernel_rfl) (fun _ _ _ h => h) (Or.inl ⟨by rfl, ?_⟩) (by assumption) ?_
      rotate_left
      · (intro w hSw; (try dsimp only at hSw); go_simp) <;> with_reducible rfl
      try simp only [Act.put, List.setIfInBounds_toArray, List.set_cons_zero, List.set_cons_succ]
      refine wpAnyH_take (i := 7) (v := ?_) (opAt rfl) (by kernel_rfl) (by kernel_rfl) (by kernel_rfl) (fun _ _ _ h => h) (Or.inl ⟨by rfl, ?_⟩) (by assumption) ?_
      rotate_left
      · (intro w hSw; (try dsimp only at hSw); go_simp) <;> with_reducible rfl
      try simp only [Act.put, List.setIfInBounds_toArray, List.set_cons_zero, List.set_cons_succ]
      refine wpAnyH_take (i := 8) (v := ?_) (opAt rfl) (by kernel_rfl) (by kernel_rfl) (by kernel_rfl) (fun _ _ _ h => h) (Or.inl ⟨by rfl, ?_⟩) (by assumption) ?_
      rotate_left
      · (intro w hSw; (try dsimp only at hSw); go_simp) <;> with_reducible rfl
      try simp only [Act.put, List.setIfInBounds_toArray, List.set_cons_zero, List.set_cons_succ]
      refine wpAnyH_ready (rs := [5]) (by kernel_rfl) (by simp) ?_
      refine AllReadyH.cons (opAt rfl) (fun K hK => ?_) ?_
      · rw [if_pos (by rfl)]
        refine wp_load_row _ _ rfl _ rfl _ _ _ _ R7.out.eq Try.underlying99 rfl (by rw [vA_size, hVl.out]; exact Try.sVals) ?_
        refine hK.out _ _ ?_ (fun hHeld1 => ?_)
        · (try dsimp only)
          refine S_of_ext ?_
          repeat (first | exact Ext.refl _ | refine Ext.up ?_ _ | refine Ext.alloc ?_ _ | refine Ext.drew ?_ | refine Ext.setRow ?_ (by first | (dsimp only; omega) | exact LeS.le | exact LeS.add _ | (simp; done) | (simp; omega)) _ | refine Ext.setCell ?_ (by first | (dsimp only; omega) | exact LeS.le | exact LeS.add _ | (simp; done) | (simp; omega)) _)
        clear hK K hHeld
        have hHeld := hHeld1; clear hHeld1
        try simp only [Act.put, List.setIfInBounds_toArray, List.set_cons_zero, List.set_cons_succ]
        refine wpAnyH_ready (rs := [6]) (by kernel_rfl) (by simp) ?_
        refine AllReadyH.cons (opAt rfl) (fun K hK => ?_) ?_
        · go_simp
          (go_at_call 83; (with_reducible refine (krun _).mono ?_); rintro e w' ⟨vr, vw, rfl, ⟨z8, rfl⟩, o1, o2, _⟩; obtain ⟨y1, f1, rfl, _, _⟩ := (o1.sl Ent.enc_length).openc; obtain ⟨y2, f2, rfl, _, _⟩ := (o2.sl Ent.enc_length).openc; have O1 := Lib.hid (o1.sl Ent.enc_length); have O2 := Lib.hid (o2.sl Ent.enc_length); clear o1 o2)
          try go_wp2_with fail
          refine hK.out _ _ ?_ (fun hHeld1 => ?_)
          · (try dsimp only)
            refine S_of_ext ?_
            repeat (first | exact Ext.refl _ | refine Ext.up ?_ _ | refine Ext.alloc ?_ _ | refine Ext.drew ?_ | refine Ext.setRow ?_ (by first | (dsimp only; omega) | exact LeS.le | exact LeS.add _ | (simp; done) | (simp; omega)) _ | refine Ext.setCell ?_ (by first | (dsimp only; omega) | exact LeS.le | exact LeS.add _ | (simp; done) | (simp; omega)) _)
          clear hK K hHeld
          have hHeld := hHeld1; clear hHeld1
          try simp only [Act.put, List.setIfInBounds_toArray, List.set_cons_zero, List.set_cons_succ]
          refine wpAnyH_ready (rs := [9]) (by kernel_rfl) (by simp) ?_
          refine AllReadyH.cons (opAt rfl) (fun K hK => ?_) ?_
          · go_simp
            (go_at_call 156; (with_reducible refine (iSameEf_any E t.e _ _ _ _ _ (O1.out.up (by repeat (first | (with_reducible exact Ext.refl _) | (with_reducible refine Ext.up ?_ _) | (with_reducible refine Ext.alloc ?_ _) | (with_reducible refine Ext.drew ?_) | (with_reducible refine Ext.setRow ?_ (by first | exact LeS.le | exact LeS.add _ | (simp; done) | (simp; omega)) _) | (with_reducible refine Ext.setCell ?_ (by first | exact LeS.le | exact LeS.add _ | (simp; done) | (simp; omega)) _)))) (O2.out.up (by repeat (first | (with_reducible exact Ext.refl _) | (with_reducible refine Ext.up ?_ _) | (with_reducible refine Ext.alloc ?_ _) | (with_reducible refine Ext.drew ?_) | (with_reducible refine Ext.setRow ?_ (by first | exact LeS.le | exact LeS.add _ | (simp; done) | (simp; omega)) _) | (with_reducible refine Ext.setCell ?_ (by first | exact LeS.le | exact LeS.add _ | (simp; done) | (simp; omega)) _)))) (SR.out.up (by repeat (first | (with_reducible exact Ext.refl _) | (with_reducible refine Ext.up ?_ _) | (with_reducible refine Ext.alloc ?_ _) | (with_reducible refine Ext.drew ?_) | (with_reducible refine Ext.setRow ?_ (by first | exact LeS.le | exact LeS.add _ | (simp; done) | (simp; omega)) _) | (with_reducible refine Ext.setCell ?_ (by first | exact LeS.le | exact LeS.add _ | (simp; done) | (simp; omega)) _)))) (SW.out.up (by repeat (first | (with_reducible exact Ext.refl _) | (with_reducible refine Ext.up ?_ _) | (with_reducible refine Ext.alloc ?_ _) | (with_reducible refine Ext.drew ?_) | (with_reducible refine Ext.setRow ?_ (by first | exact LeS.le | exact LeS.add _ | (simp; done) | (simp; omega)) _) | (with_reducible refine Ext.setCell ?_ (by first | exact LeS.le | exact LeS.add _ | (simp; done) | (simp; omega)) _))))).mono ?_); rintro e w' ⟨rfl, ⟨z9, rfl⟩⟩)
            try go_wp2_with fail
            refine hK.out _ _ ?_ (fun hHeld1 => ?_)
            · (try dsimp only)
              refine S_of_ext ?_
              repeat (first | exact Ext.refl _ | refine Ext.up ?_ _ | refine Ext.alloc ?_ _ | refine Ext.drew ?_ | refine Ext.setRow ?_ (by first | (dsimp only; omega) | exact LeS.le | exact LeS.add _ | (simp; done) | (simp; omega)) _ | refine Ext.setCell ?_ (by first | (dsimp only; omega) | exact LeS.le | exact LeS.add _ | (simp; done) | (simp; omega)) _)
            clear hK K hHeld
            have hHeld := hHeld1; clear hHeld1
            try simp only [Act.put, List.setIfInBounds_toArray, List.set_cons_zero, List.set_cons_succ]
            refine wpAnyH_take (i := 10) (v := ?_) (opAt rfl) (by kernel_rfl) (by kernel_rfl) (by kernel_rfl) (fun _ _ _ h => h) (Or.inl ⟨by rfl, ?_⟩) (by assumption) ?_
            rotate_left
            · (intro w hSw; (try dsimp only at hSw); go_simp) <;> with_reducible rfl
            try simp only [Act.put, List.setIfInBounds_toArray, List.set_cons_zero, List.set_cons_succ]
            refine wpAnyH_done (by kernel_rfl) ?_ _
            go_wp2_with fail
            go_ret
            exact ⟨by rw [HALL.out, HEq.out]; rfl, (.of (by repeat (first | (with_reducible exact Ext.refl _) | (with_reducible refine Ext.up ?_ _) | (with_reducible refine Ext.alloc ?_ _) | (with_reducible refine Ext.drew ?_) | (with_reducible refine Ext.setRow ?_ (by first | exact LeS.le | exact LeS.add _ | (simp; done) | (simp; omega)) _) | (with_reducible refine Ext.setCell ?_ (by first | exact LeS.le | exact LeS.add _ | (simp; done) | (simp; omega)) _))))⟩
          exact AllReadyH.nil
        exact AllReadyH.nil
      exact AllReadyH.nil
end Go.Proofs.Ytkboefmkfpnpjaa
namespace Go.Proofs.Ytkboefmkfpnpjaa
open Go Go.RowKit

theorem common_comm (a b : List Int) : common a b = common b a := by
  rw [Bool.eq_iff_iff]; simp only [common, List.any_eq_true, List.contains_iff_mem]
  exact ⟨fun ⟨n, a, b⟩ => ⟨n, b, a⟩, fun ⟨n, a, b⟩ => ⟨n, b, a⟩⟩
theorem conf_comm (x y : Actn) : conf x y = conf y x := by
  unfold conf
  rw [common_comm x.wk y.wk, common_comm x.wk y.rk, common_comm x.rk y.wk]
  cases common y.wk x.wk <;> cases common y.rk x.wk <;> cases common y.wk x.rk <;> rfl
/-- The level of action k as far as the first j tell. -/
def lvlAt (l : List Actn) (out : List Int) (k : Nat) : Nat → Int
  | 0 => 0
  | j + 1 => match l[j]?, l[k]?, out[j]? with
    | some x, some y, some o => if conf x y = true then max (lvlAt l out k j) (o + 1) else lvlAt l out k j
    | _, _, _ => lvlAt l out k j
theorem lvlAt_yes {l : List Actn} {out : List Int} {k j : Nat} {x y : Actn} {o : Int} (hx : l[j]? = some x) (hy : l[k]? = some y) (ho : out[j]? = some o) (h : conf x y = true) : lvlAt l out k (j + 1) = max (lvlAt l out k j) (o + 1) := by
  simp [lvlAt, hx, hy, ho, h]
theorem lvlAt_no {l : List Actn} {out : List Int} {k j : Nat} {x y : Actn} {o : Int} (hx : l[j]? = some x) (hy : l[k]? = some y) (ho : out[j]? = some o) (h : conf x y = false) : lvlAt l out k (j + 1) = lvlAt l out k j := by
  simp [lvlAt, hx, hy, ho, h]
def lvlTo (l : List Actn) : Nat → List Int
  | 0 => []
  | k + 1 => lvlTo l k ++ [lvlAt l (lvlTo l k) k k]
theorem lvlTo_length (l : List Actn) : ∀ k, (lvlTo l k).length = k
  | 0 => rfl
  | k + 1 => by simp [lvlTo, lvlTo_length l k]
theorem lvlAt_in {l : List Actn} {out : List Int} {k : Nat} (h : ∀ o ∈ out, 0 ≤ o ∧ o ≤ 1000) : ∀ j, 0 ≤ lvlAt l out k j ∧ lvlAt l out k j ≤ 1001
  | 0 => by simp [lvlAt]
  | j + 1 => by
    have ih := lvlAt_in (l := l) (k := k) h j
    unfold lvlAt
    split
    · rename_i x y o hx hy ho
      have := h o (List.mem_of_getElem? ho)
      split <;> omega
    · exact ih
theorem lvlAt_le {l : List Actn} {out : List Int} {k : Nat} (m : Int) (hm : 0 ≤ m) (h : ∀ o ∈ out, 0 ≤ o ∧ o < m) : ∀ j, 0 ≤ lvlAt l out k j ∧ lvlAt l out k j ≤ m
  | 0 => by simp [lvlAt]; omega
  | j + 1 => by
    have ih := lvlAt_le (l := l) (k := k) m hm h j
    unfold lvlAt
    split
    · rename_i x y o hx hy ho
      have := h o (List.mem_of_getElem? ho)
      split <;> omega
    · exact ih
theorem lvlTo_in (l : List Actn) : ∀ k, ∀ o ∈ lvlTo l k, 0 ≤ o ∧ o < (k : Int)
  | 0 => by simp [lvlTo]
  | k + 1 => by
    have ih := lvlTo_in l k
    intro o ho
    rw [lvlTo, List.mem_append, List.mem_singleton] at ho
    rcases ho with ho | ho
    · have := ih o ho; omega
    · have := lvlAt_le (l := l) (out := lvlTo l k) (k := k) (k : Int) (by omega) ih k
      omega
theorem lvlTo_pre (l : List Actn) {k m : Nat} (h : k ≤ m) : (lvlTo l m).take k = lvlTo l k := by
  induction m with
  | zero => obtain rfl : k = 0 := by omega
            rfl
  | succ m ih =>
    by_cases hk : k = m + 1
    · subst hk; exact List.take_of_length_le (by rw [lvlTo_length]; omega)
    · rw [lvlTo, List.take_append_of_le_length (by rw [lvlTo_length]; omega), ih (by omega)]
end Go.Proofs.Ytkboefmkfpnpjaa
