/- Walks: engines on the program's side: which slots are right. Plain laws: levels of actions. Walks: FnExactLevelsOf: levels of actions. The layings of slices.SortFunc of the kit's shelf at this program: printed by the kit's lay-plain.mjs (wip/laysort.sh), a block a seat. Walks: orders of actions by their levels; plain laws on them. -/
import Derived.Test.YtnknamddonjnjaaGEoVTop16
import Derived.Test.YtnknamddonjnjaaGEoVTop09
import Derived.Test.YtnknamddonjnjaaGEoVTop03
import Derived.Test.YtnknamddonjnjaaGEoVTop07
import Derived.Test.YtnknamddonjnjaaGEoVTop00
import Derived.Shelf.SlSortCmp.Whole1
import Derived.Shelf.SlSortCmp.WholeK
import Derived.Shelf.SlSortCmp.NoneTotal
import Derived.Ground.SlsfProg
import Derived.Test.YtnknamddonjnjaaProg
import Derived.Test.YtnknamddonjnjaaGEoVTop04
import Derived.Sort.Grow
set_option linter.unusedSimpArgs false
set_option linter.unusedVariables false
namespace Go.Proofs.Ytnknamddonjnjaa
open Go Go.RowKit Go.Proofs

set_option maxRecDepth 100000 in
set_option maxHeartbeats 4000000 in
theorem slotRight_any (e : Eng) (v0 v1 v2 v3 : Value) (n : Nat) (x : Actn) (t : Slt) (w : World) (h : SG w v0 v1 v2 v3 e) (hx : e.acts[n]? = some x) (hxo : x.ok = true) (ht : e.sl[n]? = some t) (hn10 : n ≤ 1000) :
    Calls Try.prog 16 #[.agg #[v0, v1, v2, v3], .int .i64 n] w fun ed w' => ed = .returned (.bool (sltOk x n t)) ∧ Up w w' := by
  obtain ⟨p0, c0, rfl, _, _⟩ := h.base.openc
  obtain ⟨p1, c1, rfl, _, hca⟩ := h.acts.open
  obtain ⟨p2, c2, rfl, _, _⟩ := h.vers.openc
  obtain ⟨p3, c3, rfl, _, hcs⟩ := h.sl.open
  obtain ⟨ba, oa, rfl, hba, -⟩ := hca n x hx
  obtain ⟨a0, a1, a2, a3⟩ := acell hca rfl hx
  obtain ⟨b, off, q0, d0, q1, d1, q2, d2, rfl, hb, ⟨e0, e1, e2, e3, e4, e5⟩, sf, sr, sw⟩ := hcs n t ht
  have hn0 : (0 : Int) ≤ (n : Int) := by omega
  have hn1 : (n : Int) < e.sl.length := by have := (List.getElem?_eq_some_iff.1 ht).1; omega
  have hn2 : (n : Int) < e.acts.length := by have := (List.getElem?_eq_some_iff.1 hx).1; omega
  have SF := Lib.hid sf; have SR := Lib.hid sr; have SW := Lib.hid sw
  have kre := fun w => reads_any x w
  have Hxo := Lib.hid hxo
  clear h hca hcs hx hxo ht sf sr sw
  by_cases hst : t.st = 0
  · have hst' : (t.st == 0) = true := by simpa using hst
    have hF := Lib.hid (show sltOk x n t = (inR t.tr 0 1000 && (decide (t.f.length = 0) && sameEf t.e ⟨false, [], []⟩)) by unfold sltOk; rw [if_pos hst]; rfl)
    generalize sltOk x n t = B at *
    have kin := fun w => in_any t.tr 0 1000 w
    have ksm := fun w h h' => iSameEf_any t.e ⟨false, [], []⟩ (.slice q1 t.e.r.length d1) (.slice q2 t.e.w.length d2) (.slice none 0 0) (.slice none 0 0) w h h' (SL.nil _ _ _ _ _) (SL.nil _ _ _ _ _)
    dsimp only at ksm
    generalize sameEf t.e ⟨false, [], []⟩ = b3 at *
    generalize inR t.tr 0 1000 = b1 at *
    clear hst kre
    rcases b1 with _ | _
    · obtain rfl : B = false := hF.out
      go_enter Try.func16, Try.ntmps16
      go_wp2_with fail
      refine (kin _).mono ?_; rintro ed w' ⟨rfl, rfl⟩
      go_wp2_with fail
      go_ret
      exact ⟨rfl, (.of (by repeat (first | (with_reducible exact Ext.refl _) | (with_reducible refine Ext.up ?_ _) | (with_reducible refine Ext.alloc ?_ _) | (with_reducible refine Ext.drew ?_) | (with_reducible refine Ext.setRow ?_ (by first | exact LeS.le | exact LeS.add _ | (simp; done) | (simp; omega)) _) | (with_reducible refine Ext.setCell ?_ (by first | exact LeS.le | exact LeS.add _ | (simp; done) | (simp; omega)) _))))⟩
    by_cases hf : t.f.length = 0
    rotate_left
    · have hf' : ((t.f.length : Int) == 0) = false := by rw [beq_eq_false_iff_ne]; omega
      obtain rfl : B = false := by have := hF.out; rwa [decide_eq_false hf] at this
      clear hf
      go_enter Try.func16, Try.ntmps16
      go_wp2_with fail
      refine (kin _).mono ?_; rintro ed w' ⟨rfl, rfl⟩
      go_wp2_with fail
      go_ret
      exact ⟨rfl, (.of (by repeat (first | (with_reducible exact Ext.refl _) | (with_reducible refine Ext.up ?_ _) | (with_reducible refine Ext.alloc ?_ _) | (with_reducible refine Ext.drew ?_) | (with_reducible refine Ext.setRow ?_ (by first | exact LeS.le | exact LeS.add _ | (simp; done) | (simp; omega)) _) | (with_reducible refine Ext.setCell ?_ (by first | exact LeS.le | exact LeS.add _ | (simp; done) | (simp; omega)) _))))⟩
    have hf' : ((t.f.length : Int) == 0) = true := by rw [beq_iff_eq]; omega
    obtain rfl : B = b3 := by have := hF.out; rw [decide_eq_true hf] at this; simpa using this
    clear hf hF
    go_enter Try.func16, Try.ntmps16
    go_wp2_with fail
    refine (kin _).mono ?_; rintro ed w' ⟨rfl, rfl⟩
    go_wp2_with fail
    refine (ksm _ (SR.out.up (by repeat (first | (with_reducible exact Ext.refl _) | (with_reducible refine Ext.up ?_ _) | (with_reducible refine Ext.alloc ?_ _) | (with_reducible refine Ext.drew ?_) | (with_reducible refine Ext.setRow ?_ (by first | exact LeS.le | exact LeS.add _ | (simp; done) | (simp; omega)) _) | (with_reducible refine Ext.setCell ?_ (by first | exact LeS.le | exact LeS.add _ | (simp; done) | (simp; omega)) _)))) (SW.out.up (by repeat (first | (with_reducible exact Ext.refl _) | (with_reducible refine Ext.up ?_ _) | (with_reducible refine Ext.alloc ?_ _) | (with_reducible refine Ext.drew ?_) | (with_reducible refine Ext.setRow ?_ (by first | exact LeS.le | exact LeS.add _ | (simp; done) | (simp; omega)) _) | (with_reducible refine Ext.setCell ?_ (by first | exact LeS.le | exact LeS.add _ | (simp; done) | (simp; omega)) _))))).mono ?_; rintro ed w' ⟨rfl, ⟨z1, rfl⟩⟩
    go_wp2_with fail
    go_ret
    exact ⟨rfl, (.of (by repeat (first | (with_reducible exact Ext.refl _) | (with_reducible refine Ext.up ?_ _) | (with_reducible refine Ext.alloc ?_ _) | (with_reducible refine Ext.drew ?_) | (with_reducible refine Ext.setRow ?_ (by first | exact LeS.le | exact LeS.add _ | (simp; done) | (simp; omega)) _) | (with_reducible refine Ext.setCell ?_ (by first | exact LeS.le | exact LeS.add _ | (simp; done) | (simp; omega)) _))))⟩
  have hst' : (t.st == 0) = false := by simpa using hst
  have hF := Lib.hid (show sltOk x n t = sltTry x n t by unfold sltOk; rw [if_neg hst])
  clear hst
  have kin1 := fun w => in_any t.st 1 2 w
  have kin2 := fun w => in_any t.tr 1 1000 w
  have hE := Lib.hid (show sltTry x n t = (inR t.st 1 2 && (inR t.tr 1 1000 && (decide (t.e.r.length = x.rk.length) && (decide (t.f.length = x.rk.length) && (upTo (rdAt x.rk n t.f t.e.r) t.e.r.length && sameEf (runV (vsets zeros t.e.r) x) t.e))))) from rfl)
  rw [hF.out]
  clear hF
  generalize sltTry x n t = B at *
  go_enter Try.func16, Try.ntmps16
  go_wp2_with fail
  refine (kre _).mono ?_; rintro ed w' ⟨vk, rfl, ⟨z1, rfl⟩, ok⟩
  obtain ⟨pk, ck, rfl, hkl, hck⟩ := (ok.sl encI_length).open
  have HCK := Lib.hid hck
  clear ok hck kre
  rcases guards4 (inR t.st 1 2) (inR t.tr 1 1000) (decide (t.e.r.length = x.rk.length)) (decide (t.f.length = x.rk.length)) with g1 | ⟨g1, g2⟩ | ⟨g1, g2, g3⟩ | ⟨g1, g2, g3, g4⟩ | ⟨g1, g2, g3, g4⟩
  · rw [g1] at kin1 hE
    obtain rfl : B = false := hE.out
    clear g1
    go_wp2_with fail
    refine (kin1 _).mono ?_; rintro ed w' ⟨rfl, rfl⟩
    go_wp2_with fail
    go_ret
    exact ⟨rfl, (.of (by repeat (first | (with_reducible exact Ext.refl _) | (with_reducible refine Ext.up ?_ _) | (with_reducible refine Ext.alloc ?_ _) | (with_reducible refine Ext.drew ?_) | (with_reducible refine Ext.setRow ?_ (by first | exact LeS.le | exact LeS.add _ | (simp; done) | (simp; omega)) _) | (with_reducible refine Ext.setCell ?_ (by first | exact LeS.le | exact LeS.add _ | (simp; done) | (simp; omega)) _))))⟩
  · rw [g1] at kin1 hE; rw [g2] at kin2 hE
    obtain rfl : B = false := hE.out
    clear g1 g2
    go_wp2_with fail
    refine (kin1 _).mono ?_; rintro ed w' ⟨rfl, rfl⟩
    go_wp2_with fail
    refine (kin2 _).mono ?_; rintro ed w' ⟨rfl, rfl⟩
    go_wp2_with fail
    go_ret
    exact ⟨rfl, (.of (by repeat (first | (with_reducible exact Ext.refl _) | (with_reducible refine Ext.up ?_ _) | (with_reducible refine Ext.alloc ?_ _) | (with_reducible refine Ext.drew ?_) | (with_reducible refine Ext.setRow ?_ (by first | exact LeS.le | exact LeS.add _ | (simp; done) | (simp; omega)) _) | (with_reducible refine Ext.setCell ?_ (by first | exact LeS.le | exact LeS.add _ | (simp; done) | (simp; omega)) _))))⟩
  · rw [g1] at kin1 hE; rw [g2] at kin2 hE; rw [g3] at hE
    obtain rfl : B = false := hE.out
    have g3' : ((t.e.r.length : Int) != (x.rk.length : Int)) = true := by rw [bne_iff_ne]; have := of_decide_eq_false g3; omega
    clear g1 g2 g3
    go_wp2_with fail
    refine (kin1 _).mono ?_; rintro ed w' ⟨rfl, rfl⟩
    go_wp2_with fail
    refine (kin2 _).mono ?_; rintro ed w' ⟨rfl, rfl⟩
    go_wp2_with fail
    go_ret
    exact ⟨rfl, (.of (by repeat (first | (with_reducible exact Ext.refl _) | (with_reducible refine Ext.up ?_ _) | (with_reducible refine Ext.alloc ?_ _) | (with_reducible refine Ext.drew ?_) | (with_reducible refine Ext.setRow ?_ (by first | exact LeS.le | exact LeS.add _ | (simp; done) | (simp; omega)) _) | (with_reducible refine Ext.setCell ?_ (by first | exact LeS.le | exact LeS.add _ | (simp; done) | (simp; omega)) _))))⟩
  · rw [g1] at kin1 hE; rw [g2] at kin2 hE; rw [g3, g4] at hE
    obtain rfl : B = false := hE.out
    have g3' : ((t.e.r.length : Int) != (x.rk.length : Int)) = false := by rw [bne_eq_false_iff_eq]; have := of_decide_eq_true g3; omega
    have g4' : ((t.f.length : Int) != (x.rk.length : Int)) = true := by rw [bne_iff_ne]; have := of_decide_eq_false g4; omega
    clear g1 g2 g3 g4
    go_wp2_with fail
    refine (kin1 _).mono ?_; rintro ed w' ⟨rfl, rfl⟩
    go_wp2_with fail
    refine (kin2 _).mono ?_; rintro ed w' ⟨rfl, rfl⟩
    go_wp2_with fail
    go_ret
    exact ⟨rfl, (.of (by repeat (first | (with_reducible exact Ext.refl _) | (with_reducible refine Ext.up ?_ _) | (with_reducible refine Ext.alloc ?_ _) | (with_reducible refine Ext.drew ?_) | (with_reducible refine Ext.setRow ?_ (by first | exact LeS.le | exact LeS.add _ | (simp; done) | (simp; omega)) _) | (with_reducible refine Ext.setCell ?_ (by first | exact LeS.le | exact LeS.add _ | (simp; done) | (simp; omega)) _))))⟩
  rw [g1] at kin1 hE; rw [g2] at kin2 hE; rw [g3, g4] at hE
  have h3 := Lib.hid (of_decide_eq_true g3); have h4 := Lib.hid (of_decide_eq_true g4)
  obtain rfl : B = (upTo (rdAt x.rk n t.f t.e.r) t.e.r.length && sameEf (runV (vsets zeros t.e.r) x) t.e) := hE.out
  have g3' : ((t.e.r.length : Int) != (x.rk.length : Int)) = false := by rw [bne_eq_false_iff_eq]; have := of_decide_eq_true g3; omega
  have g4' : ((t.f.length : Int) != (x.rk.length : Int)) = false := by rw [bne_eq_false_iff_eq]; have := of_decide_eq_true g4; omega
  have hrl : t.e.r.length ≤ 2 := by rw [h3.out]; exact Actn.rk_le x
  obtain ⟨_, _, e9, _, hcr⟩ := SR.out.open
  cases e9
  obtain ⟨_, _, e9, _, hcf⟩ := SF.out.open
  cases e9
  have HCR := Lib.hid hcr; have HCF := Lib.hid hcf
  clear g1 g2 g3 g4 hE hcr hcf
  go_wp2_with fail
  refine (kin1 _).mono ?_; rintro ed w' ⟨rfl, rfl⟩
  go_wp2_with fail
  refine (kin2 _).mono ?_; rintro ed w' ⟨rfl, rfl⟩
  clear kin1 kin2
  have hnw : IntKind.i64.wrap ((n : Int) - 1) = (n : Int) - 1 := IntWalk.i64_in _ ⟨by omega, by omega⟩
  go_wp2_with fail
  go_loopw [8, 9, 70] (fun _ _ s70 wr => ∃ (k : Nat), s70 = .int .i64 k ∧ k ≤ t.e.r.length ∧ Up z1.val wr ∧ Row 71 wr z1.val.heap.size (vsets zeros (t.e.r.take k)) ∧ upTo (rdAt x.rk n t.f t.e.r) k = true) (fun _ _ s70 _ => t.e.r.length - (intOf s70).toNat)
  case atStart => exact ⟨0, rfl, Nat.zero_le _, (.of (by repeat (first | (with_reducible exact Ext.refl _) | (with_reducible refine Ext.up ?_ _) | (with_reducible refine Ext.alloc ?_ _) | (with_reducible refine Ext.drew ?_) | (with_reducible refine Ext.setRow ?_ (by first | exact LeS.le | exact LeS.add _ | (simp; done) | (simp; omega)) _) | (with_reducible refine Ext.setCell ?_ (by first | exact LeS.le | exact LeS.add _ | (simp; done) | (simp; omega)) _)))), Row.of_eq (heap_alloc_new _ _) vA_zeros.symm, rfl⟩
  case round =>
    obtain ⟨k, rfl, hk, ⟨z, rfl⟩, r7, hall⟩ := hrel
    have HALL := Lib.hid hall
    by_cases hlt : k < t.e.r.length
    · clear hall
      obtain ⟨y, hy⟩ := getElem?_some_of_lt hlt
      obtain ⟨key, hkey⟩ := getElem?_some_of_lt (l := x.rk) (k := k) (by rw [← h3.out]; exact hlt)
      obtain ⟨q, hq⟩ := getElem?_some_of_lt (l := t.f) (k := k) (by rw [h4.out, ← h3.out]; exact hlt)
      obtain ⟨kk0, kk1⟩ := Actn.rk_in Hxo.out key (List.mem_of_getElem? hkey)
      have Hat := Lib.hid (rdAt_eq (n := (n : Int)) hy hkey hq)
      obtain ⟨g, fo, rfl, hbg, hcc⟩ := HCR.out k y hy
      obtain ⟨g2, fo2, rfl, hbg2, hcc2⟩ := HCK.out k key hkey
      obtain ⟨g5, fo5, rfl, hbg5, hcc5⟩ := HCF.out k q hq
      have y0 : w.cell? ⟨g, fo + k * 2, none⟩ = some (.int .i64 y.k) := hcc 0 _ rfl
      have y1 : w.cell? ⟨g, fo + k * 2 + 1, none⟩ = some (.int .i64 y.v) := hcc 1 _ rfl
      have y2 : z1.val.cell? ⟨g2, fo2 + k, none⟩ = some (.int .i64 key) := by have := hcc2 0 _ rfl; simpa using this
      have y3 : w.cell? ⟨g5, fo5 + k, none⟩ = some (.int .i64 q) := by have := hcc5 0 _ rfl; simpa using this
      have Hsn := Lib.hid (vsets_snoc zeros hy)
      obtain ⟨u, hu⟩ := getElem?_some_of_lt (l := vsets zeros (t.e.r.take k)) (k := key.toNat) (by rw [vsets_length, zeros_length]; omega)
      have d7 := r7.cell hu
      have f7 := r7.frozen key.toNat
      have hL7 := r7.lts
      have R7 := Lib.hid r7
      have kk2 : key < 32 := by omega
      have ka0 : (0 : Int) ≤ (k : Int) := by omega
      have ka1 : (k : Int) < t.e.r.length := by omega
      have ka2 : (k : Int) < x.rk.length := by rw [← h3.out]; exact ka1
      have ka3 : (k : Int) < t.f.length := by rw [h4.out, ← h3.out]; exact ka1
      have kv := fun w => isValue_any y.v w
      have ki := fun w => in_any q (-1) ((n : Int) - 1) w
      clear hy hkey hq hcc hcc2 hcc5 hu r7
      rcases guards3 (y.k == key) (inR y.v 0 1000000) (inR q (-1) ((n : Int) - 1)) with g1 | ⟨g1, g2'⟩ | ⟨g1, g2', g3'⟩ | ⟨g1, g2', g3'⟩
      · have g1' : (y.k != key) = true := by rw [bne, g1]; rfl
        have Hf := Lib.hid (upTo_false (f := rdAt x.rk n t.f t.e.r) hlt (by rw [Hat.out, g1]; rfl))
        clear g1
        go_wp2_with fail
        (refine wp_region_up (by kernel_rfl) (by kernel_rfl) ?_; (repeat (go_big_quiet_step (fail))); refine wpQuiet_nil ?_; intro _ hw'; obtain ⟨zq, hw''⟩ := hw'; subst hw'')
        go_wp2_with fail
        go_ret
        exact ⟨by rw [Hf.out]; rfl, (.of (by repeat (first | (with_reducible exact Ext.refl _) | (with_reducible refine Ext.up ?_ _) | (with_reducible refine Ext.alloc ?_ _) | (with_reducible refine Ext.drew ?_) | (with_reducible refine Ext.setRow ?_ (by first | exact LeS.le | exact LeS.add _ | (simp; done) | (simp; omega)) _) | (with_reducible refine Ext.setCell ?_ (by first | exact LeS.le | exact LeS.add _ | (simp; done) | (simp; omega)) _))))⟩
      · have g1' : (y.k != key) = false := by rw [bne, g1]; rfl
        have Hf := Lib.hid (upTo_false (f := rdAt x.rk n t.f t.e.r) hlt (by rw [Hat.out, g1, g2']; rfl))
        rw [g2'] at kv
        clear g1 g2'
        go_wp2_with fail
        (refine wp_region_up (by kernel_rfl) (by kernel_rfl) ?_; (repeat (go_big_quiet_step ((go_at_call 42; exact Calls.up_same (kv _))))); refine wpQuiet_nil ?_; intro _ hw'; obtain ⟨zq, hw''⟩ := hw'; subst hw'')
        go_wp2_with fail
        go_ret
        exact ⟨by rw [Hf.out]; rfl, (.of (by repeat (first | (with_reducible exact Ext.refl _) | (with_reducible refine Ext.up ?_ _) | (with_reducible refine Ext.alloc ?_ _) | (with_reducible refine Ext.drew ?_) | (with_reducible refine Ext.setRow ?_ (by first | exact LeS.le | exact LeS.add _ | (simp; done) | (simp; omega)) _) | (with_reducible refine Ext.setCell ?_ (by first | exact LeS.le | exact LeS.add _ | (simp; done) | (simp; omega)) _))))⟩
      · have g1' : (y.k != key) = false := by rw [bne, g1]; rfl
        have Hf := Lib.hid (upTo_false (f := rdAt x.rk n t.f t.e.r) hlt (by rw [Hat.out, g1, g2', g3']; rfl))
        rw [g2'] at kv; rw [g3'] at ki
        clear g1 g2' g3'
        go_wp2_with fail
        (refine wp_region_up (by kernel_rfl) (by kernel_rfl) ?_; (repeat (go_big_quiet_step (first | (go_at_call 42; exact Calls.up_same (kv _)) | (go_at_call 39; exact Calls.up_same (ki _))))); refine wpQuiet_nil ?_; intro _ hw'; obtain ⟨zq, hw''⟩ := hw'; subst hw'')
        go_wp2_with fail
        go_ret
        exact ⟨by rw [Hf.out]; rfl, (.of (by repeat (first | (with_reducible exact Ext.refl _) | (with_reducible refine Ext.up ?_ _) | (with_reducible refine Ext.alloc ?_ _) | (with_reducible refine Ext.drew ?_) | (with_reducible refine Ext.setRow ?_ (by first | exact LeS.le | exact LeS.add _ | (simp; done) | (simp; omega)) _) | (with_reducible refine Ext.setCell ?_ (by first | exact LeS.le | exact LeS.add _ | (simp; done) | (simp; omega)) _))))⟩
      · have g1' : (y.k != key) = false := by rw [bne, g1]; rfl
        obtain rfl : y.k = key := by simpa using g1
        have Ht := Lib.hid (upTo_succ (f := rdAt x.rk n t.f t.e.r) HALL.out (by rw [Hat.out, g2', g3']; simp))
        rw [g2'] at kv; rw [g3'] at ki
        clear g1 g2' g3'
        go_wp2_with fail
        (refine wp_region_up (by kernel_rfl) (by kernel_rfl) ?_; (repeat (go_big_quiet_step (first | (go_at_call 42; exact Calls.up_same (kv _)) | (go_at_call 39; exact Calls.up_same (ki _))))); refine wpQuiet_nil ?_; intro _ hw'; obtain ⟨zq, hw''⟩ := hw'; subst hw'')
        go_wp2_with fail
        go_roundw
        case rel => exact ⟨k + 1, by go_num, by omega, (.of (by repeat (first | (with_reducible exact Ext.refl _) | (with_reducible refine Ext.up ?_ _) | (with_reducible refine Ext.alloc ?_ _) | (with_reducible refine Ext.drew ?_) | (with_reducible refine Ext.setRow ?_ (by first | exact LeS.le | exact LeS.add _ | (simp; done) | (simp; omega)) _) | (with_reducible refine Ext.setCell ?_ (by first | exact LeS.le | exact LeS.add _ | (simp; done) | (simp; omega)) _)))), by rw [Hsn.out]; exact ((R7.out.up (by repeat (first | (with_reducible exact Ext.refl _) | (with_reducible refine Ext.up ?_ _) | (with_reducible refine Ext.alloc ?_ _) | (with_reducible refine Ext.drew ?_) | (with_reducible refine Ext.setRow ?_ (by first | exact LeS.le | exact LeS.add _ | (simp; done) | (simp; omega)) _) | (with_reducible refine Ext.setCell ?_ (by first | exact LeS.le | exact LeS.add _ | (simp; done) | (simp; omega)) _)))).set _ _), Ht.out⟩
        case measure => simp [intOf] <;> omega
    · obtain rfl : k = t.e.r.length := by omega
      rw [List.take_length] at r7
      have hVl := Lib.hid (show (vsets zeros t.e.r).length = 32 by rw [vsets_length, zeros_length])
      have hVi : valsIn (vsets zeros t.e.r) := by
        refine valsIn_vsets (fun y hy => ?_) ⟨zeros_length, fun z hz => by have := List.eq_of_mem_replicate hz; omega⟩
        obtain ⟨i, hi⟩ := List.getElem?_of_mem hy
        have hil := (List.getElem?_eq_some_iff.1 hi).1
        obtain ⟨k, hk⟩ := getElem?_some_of_lt (l := x.rk) (k := i) (by rw [← h3.out]; exact hil)
        obtain ⟨q, hq⟩ := getElem?_some_of_lt (l := t.f) (k := i) (by rw [h4.out, ← h3.out]; exact hil)
        have := upTo_iff.1 hall i hil
        rw [rdAt_eq hi hk hq] at this
        simp only [Bool.and_eq_true, inR_iff] at this
        omega
      have krun := fun w => run_any x (vsets zeros t.e.r) w hVl.out hVi Hxo.out
      generalize hEq : runV (vsets zeros t.e.r) x = E at krun
      have HEq := Lib.hid hEq; clear hEq
      have R7 := Lib.hid r7
      clear r7 hall hVi
      go_upto_region 15 with fail
      refine wp_region_held_drew (S := (fun w' => (∀ n i, ∀ [LtS n z.val], w'.cell? ⟨n, i, none⟩ = World.cell? z.val ⟨n, i, none⟩) ∧ Ext z.val w')) (by kernel_rfl) ?_ (fun hHeld => ?_)
      · (try dsimp only)
        refine S_of_ext ?_
        repeat (first | exact Ext.refl _ | refine Ext.up ?_ _ | refine Ext.alloc ?_ _ | refine Ext.drew ?_ | refine Ext.setRow ?_ (by first | (dsimp only; omega) | exact LeS.le | exact LeS.add _ | (simp; done) | (simp; omega)) _ | refine Ext.setCell ?_ (by first | (dsimp only; omega) | exact LeS.le | exact LeS.add _ | (simp; done) | (simp; omega)) _)
      refine wpAnyH_take (i := 0) (v := ?_) (opAt rfl) (by kernel_rfl) (by kernel_rfl) (by kernel_rfl) (fun _ _ _ h => h) (Or.inl ⟨by rfl, ?_⟩) (by assumption) ?_
      rotate_left
      · (intro w hSw; (try dsimp only at hSw); go_simp) <;> with_reducible rfl
      try simp only [Act.put, List.setIfInBounds_toArray, List.set_cons_zero, List.set_cons_succ]
      refine wpAnyH_take (i := 1) (v := ?_) (opAt rfl) (by kernel_rfl) (by kernel_rfl) (by kernel_rfl) (fun _ _ _ h => h) (Or.inl ⟨by rfl, ?_⟩) (by assumption) ?_
      rotate_left
      · (intro w hSw; (try dsimp only at hSw); go_simp) <;> with_reducible rfl
      try simp only [Act.put, List.setIfInBounds_toArray, List.set_cons_zero, List.set_cons_succ]
      refine wpAnyH_take (i := 2) (v := ?_) (opAt rfl) (by kernel_rfl) (by kernel_rfl) (by kernel_rfl) (fun _ _ _ h => h) (Or.inl ⟨by rfl, ?_⟩) (by assumption) ?_
      rotate_left
      · (intro w hSw; (try dsimp only at hSw); go_simp) <;> with_reducible rfl
      try simp only [Act.put, List.setIfInBounds_toArray, List.set_cons_zero, List.set_cons_succ]
      refine wpAnyH_take (i := 3) (v := ?_) (opAt rfl) (by kernel_rfl) (by kernel_rfl) (by kernel_rfl) (fun _ _ _ h => h) (Or.inl ⟨by rfl, ?_⟩) (by assumption) ?_
      rotate_left
      · (intro w hSw; (try dsimp only at hSw); go_simp) <;> with_reducible rfl
      try simp only [Act.put, List.setIfInBounds_toArray, List.set_cons_zero, List.set_cons_succ]
      refine wpAnyH_take (i := 4) (v := ?_) (opAt rfl) (by kernel_rfl) (by kernel_rfl) (by kernel_rfl) (fun _ _ _ h => h) (Or.inl ⟨by rfl, ?_⟩) (by assumption) ?_
      rotate_left
      · (intro w hSw; (try dsimp only at hSw); go_simp) <;> with_reducible rfl
      try simp only [Act.put, List.setIfInBounds_toArray, List.set_cons_zero, List.set_cons_succ]
      refine wpAnyH_take (i := 7) (v := ?_) (opAt rfl) (by kernel_rfl) (by kernel_rfl) (by kernel_rfl) (fun _ _ _ h => h) (Or.inl ⟨by rfl, ?_⟩) (by assumption) ?_
      rotate_left
      · (intro w hSw; (try dsimp only at hSw); go_simp) <;> with_reducible rfl
      try simp only [Act.put, List.setIfInBounds_toArray, List.set_cons_zero, List.set_cons_succ]
      refine wpAnyH_take (i := 8) (v := ?_) (opAt rfl) (by kernel_rfl) (by kernel_rfl) (by kernel_rfl) (fun _ _ _ h => h) (Or.inl ⟨by rfl, ?_⟩) (by assumption) ?_
      rotate_left
      · (intro w hSw; (try dsimp only at hSw); go_simp) <;> with_reducible rfl
      try simp only [Act.put, List.setIfInBounds_toArray, List.set_cons_zero, List.set_cons_succ]
      refine wpAnyH_ready (rs := [5]) (by kernel_rfl) (by simp) ?_
      refine AllReadyH.cons (opAt rfl) (fun K hK => ?_) ?_
      · rw [if_pos (by rfl)]
        refine wp_load_row _ _ rfl _ rfl _ _ _ _ R7.out.eq Try.underlying71 rfl (by rw [vA_size, hVl.out]; exact Try.sVals) ?_
        refine hK.out _ _ ?_ (fun hHeld1 => ?_)
        · (try dsimp only)
          refine S_of_ext ?_
          repeat (first | exact Ext.refl _ | refine Ext.up ?_ _ | refine Ext.alloc ?_ _ | refine Ext.drew ?_ | refine Ext.setRow ?_ (by first | (dsimp only; omega) | exact LeS.le | exact LeS.add _ | (simp; done) | (simp; omega)) _ | refine Ext.setCell ?_ (by first | (dsimp only; omega) | exact LeS.le | exact LeS.add _ | (simp; done) | (simp; omega)) _)
        clear hK K hHeld
        have hHeld := hHeld1; clear hHeld1
        try simp only [Act.put, List.setIfInBounds_toArray, List.set_cons_zero, List.set_cons_succ]
        refine wpAnyH_ready (rs := [6]) (by kernel_rfl) (by simp) ?_
        refine AllReadyH.cons (opAt rfl) (fun K hK => ?_) ?_
        · go_simp
          (go_at_call 43; (with_reducible refine (krun _).mono ?_); rintro e w' ⟨vr, vw, rfl, ⟨z8, rfl⟩, o1, o2, _⟩; obtain ⟨y1, f1, rfl, _, _⟩ := (o1.sl Ent.enc_length).openc; obtain ⟨y2, f2, rfl, _, _⟩ := (o2.sl Ent.enc_length).openc; have O1 := Lib.hid (o1.sl Ent.enc_length); have O2 := Lib.hid (o2.sl Ent.enc_length); clear o1 o2)
          try go_wp2_with fail
          refine hK.out _ _ ?_ (fun hHeld1 => ?_)
          · (try dsimp only)
            refine S_of_ext ?_
            repeat (first | exact Ext.refl _ | refine Ext.up ?_ _ | refine Ext.alloc ?_ _ | refine Ext.drew ?_ | refine Ext.setRow ?_ (by first | (dsimp only; omega) | exact LeS.le | exact LeS.add _ | (simp; done) | (simp; omega)) _ | refine Ext.setCell ?_ (by first | (dsimp only; omega) | exact LeS.le | exact LeS.add _ | (simp; done) | (simp; omega)) _)
          clear hK K hHeld
          have hHeld := hHeld1; clear hHeld1
          try simp only [Act.put, List.setIfInBounds_toArray, List.set_cons_zero, List.set_cons_succ]
          refine wpAnyH_ready (rs := [9]) (by kernel_rfl) (by simp) ?_
          refine AllReadyH.cons (opAt rfl) (fun K hK => ?_) ?_
          · go_simp
            (go_at_call 40; (with_reducible refine (iSameEf_any E t.e _ _ _ _ _ (O1.out.up (by repeat (first | (with_reducible exact Ext.refl _) | (with_reducible refine Ext.up ?_ _) | (with_reducible refine Ext.alloc ?_ _) | (with_reducible refine Ext.drew ?_) | (with_reducible refine Ext.setRow ?_ (by first | exact LeS.le | exact LeS.add _ | (simp; done) | (simp; omega)) _) | (with_reducible refine Ext.setCell ?_ (by first | exact LeS.le | exact LeS.add _ | (simp; done) | (simp; omega)) _)))) (O2.out.up (by repeat (first | (with_reducible exact Ext.refl _) | (with_reducible refine Ext.up ?_ _) | (with_reducible refine Ext.alloc ?_ _) | (with_reducible refine Ext.drew ?_) | (with_reducible refine Ext.setRow ?_ (by first | exact LeS.le | exact LeS.add _ | (simp; done) | (simp; omega)) _) | (with_reducible refine Ext.setCell ?_ (by first | exact LeS.le | exact LeS.add _ | (simp; done) | (simp; omega)) _)))) (SR.out.up (by repeat (first | (with_reducible exact Ext.refl _) | (with_reducible refine Ext.up ?_ _) | (with_reducible refine Ext.alloc ?_ _) | (with_reducible refine Ext.drew ?_) | (with_reducible refine Ext.setRow ?_ (by first | exact LeS.le | exact LeS.add _ | (simp; done) | (simp; omega)) _) | (with_reducible refine Ext.setCell ?_ (by first | exact LeS.le | exact LeS.add _ | (simp; done) | (simp; omega)) _)))) (SW.out.up (by repeat (first | (with_reducible exact Ext.refl _) | (with_reducible refine Ext.up ?_ _) | (with_reducible refine Ext.alloc ?_ _) | (with_reducible refine Ext.drew ?_) | (with_reducible refine Ext.setRow ?_ (by first | exact LeS.le | exact LeS.add _ | (simp; done) | (simp; omega)) _) | (with_reducible refine Ext.setCell ?_ (by first | exact LeS.le | exact LeS.add _ | (simp; done) | (simp; omega)) _))))).mono ?_); rintro e w' ⟨rfl, ⟨z9, rfl⟩⟩)
            try go_wp2_with fail
            refine hK.out _ _ ?_ (fun hHeld1 => ?_)
            · (try dsimp only)
              refine S_of_ext ?_
              repeat (first | exact Ext.refl _ | refine Ext.up ?_ _ | refine Ext.alloc ?_ _ | refine Ext.drew ?_ | refine Ext.setRow ?_ (by first | (dsimp only; omega) | exact LeS.le | exact LeS.add _ | (simp; done) | (simp; omega)) _ | refine Ext.setCell ?_ (by first | (dsimp only; omega) | exact LeS.le | exact LeS.add _ | (simp; done) | (simp; omega)) _)
            clear hK K hHeld
            have hHeld := hHeld1; clear hHeld1
            try simp only [Act.put, List.setIfInBounds_toArray, List.set_cons_zero, List.set_cons_succ]
            refine wpAnyH_take (i := 10) (v := ?_) (opAt rfl) (by kernel_rfl) (by kernel_rfl) (by kernel_rfl) (fun _ _ _ h => h) (Or.inl ⟨by rfl, ?_⟩) (by assumption) ?_
            rotate_left
            · (intro w hSw; (try dsimp only at hSw); go_simp) <;> with_reducible rfl
            try simp only [Act.put, List.setIfInBounds_toArray, List.set_cons_zero, List.set_cons_succ]
            refine wpAnyH_done (by kernel_rfl) ?_ _
            go_wp2_with fail
            go_ret
            exact ⟨by rw [HALL.out, HEq.out]; rfl, (.of (by repeat (first | (with_reducible exact Ext.refl _) | (with_reducible refine Ext.up ?_ _) | (with_reducible refine Ext.alloc ?_ _) | (with_reducible refine Ext.drew ?_) | (with_reducible refine Ext.setRow ?_ (by first | exact LeS.le | exact LeS.add _ | (simp; done) | (simp; omega)) _) | (with_reducible refine Ext.setCell ?_ (by first | exact LeS.le | exact LeS.add _ | (simp; done) | (simp; omega)) _))))⟩
          exact AllReadyH.nil
        exact AllReadyH.nil
      exact AllReadyH.nil
end Go.Proofs.Ytnknamddonjnjaa
namespace Go.Proofs.Ytnknamddonjnjaa
open Go Go.RowKit

theorem common_comm (a b : List Int) : common a b = common b a := by
  rw [Bool.eq_iff_iff]; simp only [common, List.any_eq_true, List.contains_iff_mem]
  exact ⟨fun ⟨n, a, b⟩ => ⟨n, b, a⟩, fun ⟨n, a, b⟩ => ⟨n, b, a⟩⟩
theorem conf_comm (x y : Actn) : conf x y = conf y x := by
  unfold conf
  rw [common_comm x.wk y.wk, common_comm x.wk y.rk, common_comm x.rk y.wk]
  cases common y.wk x.wk <;> cases common y.rk x.wk <;> cases common y.wk x.rk <;> rfl
/-- The level of action k as far as the first j tell. -/
def lvlAt (l : List Actn) (out : List Int) (k : Nat) : Nat → Int
  | 0 => 0
  | j + 1 => match l[j]?, l[k]?, out[j]? with
    | some x, some y, some o => if conf x y = true then max (lvlAt l out k j) (o + 1) else lvlAt l out k j
    | _, _, _ => lvlAt l out k j
theorem lvlAt_yes {l : List Actn} {out : List Int} {k j : Nat} {x y : Actn} {o : Int} (hx : l[j]? = some x) (hy : l[k]? = some y) (ho : out[j]? = some o) (h : conf x y = true) : lvlAt l out k (j + 1) = max (lvlAt l out k j) (o + 1) := by
  simp [lvlAt, hx, hy, ho, h]
theorem lvlAt_no {l : List Actn} {out : List Int} {k j : Nat} {x y : Actn} {o : Int} (hx : l[j]? = some x) (hy : l[k]? = some y) (ho : out[j]? = some o) (h : conf x y = false) : lvlAt l out k (j + 1) = lvlAt l out k j := by
  simp [lvlAt, hx, hy, ho, h]
def lvlTo (l : List Actn) : Nat → List Int
  | 0 => []
  | k + 1 => lvlTo l k ++ [lvlAt l (lvlTo l k) k k]
theorem lvlTo_length (l : List Actn) : ∀ k, (lvlTo l k).length = k
  | 0 => rfl
  | k + 1 => by simp [lvlTo, lvlTo_length l k]
theorem lvlAt_in {l : List Actn} {out : List Int} {k : Nat} (h : ∀ o ∈ out, 0 ≤ o ∧ o ≤ 1000) : ∀ j, 0 ≤ lvlAt l out k j ∧ lvlAt l out k j ≤ 1001
  | 0 => by simp [lvlAt]
  | j + 1 => by
    have ih := lvlAt_in (l := l) (k := k) h j
    unfold lvlAt
    split
    · rename_i x y o hx hy ho
      have := h o (List.mem_of_getElem? ho)
      split <;> omega
    · exact ih
theorem lvlAt_le {l : List Actn} {out : List Int} {k : Nat} (m : Int) (hm : 0 ≤ m) (h : ∀ o ∈ out, 0 ≤ o ∧ o < m) : ∀ j, 0 ≤ lvlAt l out k j ∧ lvlAt l out k j ≤ m
  | 0 => by simp [lvlAt]; omega
  | j + 1 => by
    have ih := lvlAt_le (l := l) (k := k) m hm h j
    unfold lvlAt
    split
    · rename_i x y o hx hy ho
      have := h o (List.mem_of_getElem? ho)
      split <;> omega
    · exact ih
theorem lvlTo_in (l : List Actn) : ∀ k, ∀ o ∈ lvlTo l k, 0 ≤ o ∧ o < (k : Int)
  | 0 => by simp [lvlTo]
  | k + 1 => by
    have ih := lvlTo_in l k
    intro o ho
    rw [lvlTo, List.mem_append, List.mem_singleton] at ho
    rcases ho with ho | ho
    · have := ih o ho; omega
    · have := lvlAt_le (l := l) (out := lvlTo l k) (k := k) (k : Int) (by omega) ih k
      omega
theorem lvlTo_pre (l : List Actn) {k m : Nat} (h : k ≤ m) : (lvlTo l m).take k = lvlTo l k := by
  induction m with
  | zero => obtain rfl : k = 0 := by omega
            rfl
  | succ m ih =>
    by_cases hk : k = m + 1
    · subst hk; exact List.take_of_length_le (by rw [lvlTo_length]; omega)
    · rw [lvlTo, List.take_append_of_le_length (by rw [lvlTo_length]; omega), ih (by omega)]
end Go.Proofs.Ytnknamddonjnjaa
namespace Go.Proofs.Ytnknamddonjnjaa
open Go Go.RowKit Go.Proofs

theorem conflict_okL {x y : Actn} (hx : x.ok = true) (hy : y.ok = true) : conflict x y = conf x y := by simp [conflict, hx, hy]
theorem max_lt (a b : Int) : max a b = if a < b then b else a := by split <;> omega
def lvlR (l : List Actn) : List Int := if actsOk l = true then lvlTo l l.length else []
theorem lvlR_no {l : List Actn} (h : actsOk l = false) : lvlR l = [] := by unfold lvlR; rw [h]; rfl
theorem lvlR_yes {l : List Actn} (h : actsOk l = true) : lvlR l = lvlTo l l.length := by unfold lvlR; rw [h]; rfl
theorem lvlR_le (l : List Actn) : (lvlR l).length ≤ 10 := by
  rcases h : actsOk l with _ | _
  · rw [lvlR_no h]; simp
  · rw [lvlR_yes h, lvlTo_length]; exact actsOk_len h
end Go.Proofs.Ytnknamddonjnjaa
namespace Go.Proofs
open Go.Shelf
def Try.sortVer_ren : Go.Shelf.Ren := ⟨fun | 6 => 45 | 15 => 74 | 14 => 73 | 28 => 93 | 29 => 94 | 20 => 85 | 21 => 86 | 22 => 87 | 23 => 88 | 24 => 89 | 25 => 90 | 26 => 91 | 27 => 92 | 46 => 95 | 47 => 96 | 48 => 97 | 49 => 98 | 50 => 99 | 57 => 100 | n => n, fun | 22 => 25 | 24 => 32 | 25 => 75 | 3 => 3 | 39 => 101 | 0 => 0 | 53 => 121 | 55 => 123 | 4 => 4 | 46 => 114 | 45 => 113 | 50 => 118 | 5 => 5 | 9 => 9 | 66 => 124 | 70 => 128 | 76 => 130 | 77 => 82 | n => n, fun | n => n⟩
theorem Try.sortVer : Go.Proofs.SlLaysF0.n6 Try.prog Try.sortVer_ren := {
  mixed := by kernel_rfl
  f6 := ⟨Try.f45.name, by decide, Try.func45.trans (congrArg some (by kernel_rfl))⟩
  f14 := ⟨Try.f73.name, by decide, Try.func73.trans (congrArg some (by kernel_rfl))⟩
  f15 := Try.func74.trans (congrArg some (by kernel_rfl))
  f20 := ⟨Try.f85.name, by decide, Try.func85.trans (congrArg some (by kernel_rfl))⟩
  f21 := ⟨Try.f86.name, by decide, Try.func86.trans (congrArg some (by kernel_rfl))⟩
  f22 := ⟨Try.f87.name, by decide, Try.func87.trans (congrArg some (by kernel_rfl))⟩
  f23 := ⟨Try.f88.name, by decide, Try.func88.trans (congrArg some (by kernel_rfl))⟩
  f24 := ⟨Try.f89.name, by decide, Try.func89.trans (congrArg some (by kernel_rfl))⟩
  f25 := ⟨Try.f90.name, by decide, Try.func90.trans (congrArg some (by kernel_rfl))⟩
  f26 := ⟨Try.f91.name, by decide, Try.func91.trans (congrArg some (by kernel_rfl))⟩
  f27 := ⟨Try.f92.name, by decide, Try.func92.trans (congrArg some (by kernel_rfl))⟩
  f28 := Try.func93.trans (congrArg some (by kernel_rfl))
  f29 := Try.func94.trans (congrArg some (by kernel_rfl))
  f46 := ⟨Try.f95.name, by decide, Try.func95.trans (congrArg some (by kernel_rfl))⟩
  f47 := Try.func96.trans (congrArg some (by kernel_rfl))
  f48 := Try.func97.trans (congrArg some (by kernel_rfl))
  f49 := ⟨Try.f98.name, by decide, Try.func98.trans (congrArg some (by kernel_rfl))⟩
  f50 := ⟨Try.f99.name, by decide, Try.func99.trans (congrArg some (by kernel_rfl))⟩
  f57 := ⟨Try.f100.name, by decide, Try.func100.trans (congrArg some (by kernel_rfl))⟩
  t0 := Try.underlying0
  a0 := Try.isAgg0
  z0 := Try.sizeOf0
  v0 := Try.zeroValue0
  t3 := Try.underlying3
  a3 := Try.isAgg3
  z3 := Try.sizeOf3
  v3 := Try.zeroValue3
  t4 := Try.underlying4
  a4 := Try.isAgg4
  z4 := Try.sizeOf4
  v4 := Try.zeroValue4
  t5 := Try.underlying5
  a5 := Try.isAgg5
  z5 := Try.sizeOf5
  v5 := Try.zeroValue5
  t9 := Try.underlying9
  a9 := Try.isAgg9
  z9 := Try.sizeOf9
  v9 := Try.zeroValue9
  t22 := Try.underlying25
  a22 := Try.isAgg25
  z22 := Try.sizeOf25
  v22 := Try.zeroValue25
  t25 := Try.underlying75
  a25 := Try.isAgg75
  z25 := Try.sizeOf75
  v25 := Try.zeroValue75
  t39 := Try.underlying101
  a39 := Try.isAgg101
  z39 := Try.sizeOf101
  v39 := Try.zeroValue101
  t45 := Try.underlying113
  a45 := Try.isAgg113
  z45 := Try.sizeOf113
  v45 := Try.zeroValue113
  t46 := Try.underlying114
  a46 := Try.isAgg114
  z46 := Try.sizeOf114
  v46 := Try.zeroValue114
  t50 := Try.underlying118
  a50 := Try.isAgg118
  z50 := Try.sizeOf118
  v50 := Try.zeroValue118
  t53 := Try.underlying121
  a53 := Try.isAgg121
  z53 := Try.sizeOf121
  v53 := Try.zeroValue121
  t55 := Try.underlying123
  a55 := Try.isAgg123
  z55 := Try.sizeOf123
  v55 := Try.zeroValue123
  t66 := Try.underlying124
  a66 := Try.isAgg124
  z66 := Try.sizeOf124
  v66 := Try.zeroValue124
  t70 := Try.underlying128
  a70 := Try.isAgg128
  z70 := Try.sizeOf128
  v70 := Try.zeroValue128
  t76 := Try.underlying130
  a76 := Try.isAgg130
  z76 := Try.sizeOf130
  v76 := Try.zeroValue130
  t77 := Try.underlying82
  a77 := Try.isAgg82
  z77 := Try.sizeOf82
  v77 := Try.zeroValue82 }
end Go.Proofs
namespace Go.Proofs.Ytnknamddonjnjaa
open Go Go.RowKit Go.Proofs

/-! ### Plain -/
def lvRow (lv : List Int) (a : Int) : Nat → List Int
  | 0 => []
  | k + 1 => (if lv[k]? = some a then [(k : Int)] else []) ++ lvRow lv a k
def lvRows (lv : List Int) : Nat → List Int
  | 0 => []
  | m + 1 => lvRows lv m ++ lvRow lv (m : Int) lv.length
def lvoR (l : List Actn) : List Int := lvRows (lvlR l) (lvlR l).length
theorem lvRow_mem (lv : List Int) (a : Int) (x : Int) : ∀ k, x ∈ lvRow lv a k ↔ ∃ i : Nat, i < k ∧ x = i ∧ lv[i]? = some a
  | 0 => by simp [lvRow]
  | k + 1 => by
    rw [lvRow, List.mem_append, lvRow_mem lv a x k]
    constructor
    · rintro (h | ⟨i, h1, h2, h3⟩)
      · split at h
        · rename_i hk
          simp at h
          exact ⟨k, Nat.lt_succ_self _, h, hk⟩
        · simp at h
      · exact ⟨i, by omega, h2, h3⟩
    · rintro ⟨i, h1, h2, h3⟩
      by_cases hi : i = k
      · subst hi
        left; rw [if_pos h3]; simp [h2]
      · exact .inr ⟨i, by omega, h2, h3⟩
theorem lvRows_mem (lv : List Int) (x : Int) : ∀ m, x ∈ lvRows lv m ↔ ∃ i : Nat, i < lv.length ∧ x = i ∧ ∃ a : Nat, a < m ∧ lv[i]? = some (a : Int)
  | 0 => by simp [lvRows]
  | m + 1 => by
    rw [lvRows, List.mem_append, lvRows_mem lv x m, lvRow_mem]
    constructor
    · rintro (⟨i, h1, h2, a, h3, h4⟩ | ⟨i, h1, h2, h3⟩)
      · exact ⟨i, h1, h2, a, by omega, h4⟩
      · exact ⟨i, h1, h2, m, Nat.lt_succ_self _, h3⟩
    · rintro ⟨i, h1, h2, a, h3, h4⟩
      by_cases ha : a = m
      · subst ha; exact .inr ⟨i, h1, h2, h4⟩
      · exact .inl ⟨i, h1, h2, a, by omega, h4⟩
def lvl0 (lv : List Int) (x : Int) : Int := lv.getD x.toNat 0
/-- Which number comes first. -/
def lvLt (lv : List Int) (x y : Int) : Prop := lvl0 lv x < lvl0 lv y ∨ (lvl0 lv x = lvl0 lv y ∧ y < x)
theorem lvRow_lt (lv : List Int) (a : Int) : ∀ k, (lvRow lv a k).Pairwise (lvLt lv)
  | 0 => List.Pairwise.nil
  | k + 1 => by
    rw [lvRow]
    split
    · rename_i hk
      rw [List.singleton_append, List.pairwise_cons]
      refine ⟨fun y hy => ?_, lvRow_lt lv a k⟩
      obtain ⟨i, h1, rfl, h3⟩ := (lvRow_mem lv a y k).1 hy
      right
      unfold lvl0
      simp only [Int.toNat_natCast]
      rw [getD_of hk, getD_of h3]
      exact ⟨rfl, by omega⟩
    · exact lvRow_lt lv a k
theorem lvRows_lt (lv : List Int) : ∀ m, (lvRows lv m).Pairwise (lvLt lv)
  | 0 => List.Pairwise.nil
  | m + 1 => by
    rw [lvRows, List.pairwise_append]
    refine ⟨lvRows_lt lv m, lvRow_lt lv _ _, fun x hx y hy => ?_⟩
    obtain ⟨i, _, rfl, a, h3, h4⟩ := (lvRows_mem lv x m).1 hx
    obtain ⟨j, _, rfl, h5⟩ := (lvRow_mem lv _ y _).1 hy
    left
    unfold lvl0
    simp only [Int.toNat_natCast]
    rw [getD_of h4, getD_of h5]
    omega
theorem sorted_unique {α : Type} {lt : α → α → Prop} (hi : ∀ x, ¬ lt x x) (ht : ∀ x y z, lt x y → lt y z → lt x z) : ∀ {a b : List α}, a.Pairwise lt → b.Pairwise lt → (∀ x, x ∈ a ↔ x ∈ b) → a = b
  | [], [], _, _, _ => rfl
  | [], y :: b, _, _, h => by have := (h y).2 (by simp); simp at this
  | x :: a, [], _, _, h => by have := (h x).1 (by simp); simp at this
  | x :: a, y :: b, ha, hb, h => by
    rw [List.pairwise_cons] at ha hb
    have hxy : x = y := by
      have h1 : x = y ∨ x ∈ b := List.mem_cons.1 ((h x).1 (by simp))
      have h2 : y = x ∨ y ∈ a := List.mem_cons.1 ((h y).2 (by simp))
      rcases h1 with h1 | h1
      · exact h1
      · rcases h2 with h2 | h2
        · exact h2.symm
        · exact absurd (ht _ _ _ (hb.1 x h1) (ha.1 y h2)) (hi _)
    subst hxy
    rw [sorted_unique hi ht ha.2 hb.2 fun z => ?_]
    constructor
    · intro hz
      rcases List.mem_cons.1 ((h z).1 (by simp [hz])) with e | hz'
      · subst e; exact absurd (ha.1 _ hz) (hi _)
      · exact hz'
    · intro hz
      rcases List.mem_cons.1 ((h z).2 (by simp [hz])) with e | hz'
      · subst e; exact absurd (hb.1 _ hz) (hi _)
      · exact hz'
theorem lvlR_in (l : List Actn) : ∀ a ∈ lvlR l, 0 ≤ a ∧ a < ((lvlR l).length : Int) := by
  intro a ha
  rcases h : actsOk l with _ | _
  · rw [lvlR_no h] at ha; simp at ha
  · rw [lvlR_yes h] at ha ⊢
    have := lvlTo_in l l.length a ha
    rw [lvlTo_length]; exact this
/-- Whatever holds every number once and is in order is the order by levels. -/
theorem lvoR_unique (l : List Actn) {m : List Int} (hm : ∀ x, x ∈ m ↔ ∃ i : Nat, i < (lvlR l).length ∧ x = i) (hs : m.Pairwise (lvLt (lvlR l))) : m = lvoR l := by
  refine sorted_unique (lt := lvLt (lvlR l)) (fun x h => ?_) (fun x y z h1 h2 => ?_) hs (lvRows_lt _ _) (fun x => ?_)
  · unfold lvLt at h; omega
  · unfold lvLt at *; omega
  · rw [hm, lvoR, lvRows_mem]
    constructor
    · rintro ⟨i, h1, h2⟩
      obtain ⟨a, ha⟩ := getElem?_some_of_lt h1
      have := lvlR_in l a (List.mem_of_getElem? ha)
      exact ⟨i, h1, h2, a.toNat, by omega, by rw [ha]; congr 1; omega⟩
    · rintro ⟨i, h1, h2, _⟩
      exact ⟨i, h1, h2⟩
theorem lvRow_len (lv : List Int) (a : Int) : ∀ k, (lvRow lv a k).length ≤ k
  | 0 => Nat.le_refl _
  | k + 1 => by have := lvRow_len lv a k; rw [lvRow, List.length_append]; split <;> simp <;> omega
theorem lvRows_len (lv : List Int) : ∀ m, (lvRows lv m).length ≤ m * lv.length
  | 0 => by simp [lvRows]
  | m + 1 => by
    have h1 := lvRows_len lv m
    have h2 := lvRow_len lv (m : Int) lv.length
    rw [lvRows, List.length_append, Nat.succ_mul]; omega
theorem lvoR_le (l : List Actn) : (lvoR l).length ≤ 100 := by
  have h1 := lvRows_len (lvlR l) (lvlR l).length
  have h2 := lvlR_le l
  have h3 : (lvlR l).length * (lvlR l).length ≤ 10 * 10 := Nat.mul_le_mul h2 h2
  show (lvRows _ _).length ≤ _
  omega
theorem own_emptyI (e lo : Nat) (w : World) (g : Nat) (hg : g = w.heap.size) (hlo : lo ≤ w.heap.size) : Own encI e 1 lo (w.alloc (.cells #[] e)) (.slice (some ⟨g, 0, none⟩) 0 0) [] := Own.lit hg hlo rfl rfl encI_length (Nat.zero_le _)
theorem oneIs' (l : List Int) : ∀ u ∈ l.flatMap encI, u.oneCell' = true := by
  intro u hu
  obtain ⟨x, _, h⟩ := List.mem_flatMap.1 hu
  exact oneI x u h
end Go.Proofs.Ytnknamddonjnjaa
