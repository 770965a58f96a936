/- Walks: engines on the reference's side: which slots are right. Walks: trees of blocks: sizes, copies, comparisons. Plain ground: trees of the call's own whose slices share no block; rows behind an append. -/
import Derived.Test.YtnknamddonjnjaaGEoVTop20
import Derived.Test.YtnknamddonjnjaaGEoVTop19
import Derived.Test.YtnknamddonjnjaaGEoVTop13
import Derived.Test.YtnknamddonjnjaaGEoVTop09
import Derived.Test.YtnknamddonjnjaaGEoVTop06
import Derived.Test.YtnknamddonjnjaaGEoVTop18
set_option linter.unusedSimpArgs false
set_option linter.unusedVariables false
namespace Go.Proofs.Ytnknamddonjnjaa
open Go Go.RowKit Go.Proofs

theorem sltNew_six (t : Slt) : sltNew t = (decide (0 ≤ t.tr) && (decide (t.tr ≤ 1000) && (decide (t.f.length = 0) && (!t.e.d && (decide (t.e.r.length = 0) && decide (t.e.w.length = 0)))))) := by
  rw [Bool.eq_iff_iff]
  simp only [sltNew, Bool.and_eq_true, inR_iff, decide_eq_true_eq, sameEf_iff, Bool.not_eq_true']
  obtain ⟨st, tr, f, ⟨d, r, u⟩⟩ := t
  simp only [Eff.mk.injEq]
  constructor
  · rintro ⟨⟨a, b⟩, c, rfl, rfl, rfl⟩; exact ⟨a, b, c, rfl, rfl, rfl⟩
  · rintro ⟨a, b, c, e, g, h⟩; exact ⟨⟨a, b⟩, c, e, List.eq_nil_of_length_eq_zero g, List.eq_nil_of_length_eq_zero h⟩
theorem getD_vset (V : List Int) (y : Ent) (k : Int) (h0 : 0 ≤ y.k) (hk : 0 ≤ k) (hlt : k.toNat < V.length) : (vset V y).getD k.toNat 0 = if y.k = k then y.v else V.getD k.toNat 0 := by
  rw [List.getD_eq_getElem?_getD, vset_get h0 hlt, show ((k.toNat : Nat) : Int) = k from by omega]
  split
  · rfl
  · rw [List.getD_eq_getElem?_getD]
theorem runV_reads {x : Actn} (hx : x.ok = true) {r : List Ent} (hl : r.length = x.rk.length) (hk : ∀ (i : Nat) y k, r[i]? = some y → x.rk[i]? = some k → y.k = k) : (runV (vsets zeros r) x).r = r := by
  have hin := Actn.rk_in hx
  show x.rds _ _ = r
  unfold Actn.rds
  by_cases h1 : x.kind = 1
  · have e : x.rk = [] := by unfold Actn.rk; rw [if_pos h1]
    rw [e] at hl ⊢
    rw [List.eq_nil_of_length_eq_zero hl]; rfl
  by_cases h2 : x.kind = 3 ∨ x.kind = 6 ∨ x.src = x.dst
  · have e : x.rk = [x.src] := by unfold Actn.rk; rw [if_neg h1, if_pos h2]
    rw [e] at hl hk hin ⊢
    match r, hl with
    | [y], _ =>
      have hy := hk 0 y x.src rfl rfl
      have hs := hin x.src (by simp)
      have hv : (vsets zeros [y]).getD x.src.toNat 0 = y.v := by
        show (vset zeros y).getD _ 0 = _
        rw [getD_vset _ _ _ (by omega) hs.1 (by rw [zeros_length]; omega), if_pos hy]
      rw [List.map_cons, if_pos rfl, hv, List.map_nil, ← hy]
  · have e : x.rk = [x.src, x.dst] := by unfold Actn.rk; rw [if_neg h1, if_neg h2]
    rw [e] at hl hk hin ⊢
    match r, hl with
    | [y, z], _ =>
      have hy := hk 0 y x.src rfl rfl
      have hz := hk 1 z x.dst rfl rfl
      have hs := hin x.src (by simp)
      have hd := hin x.dst (by simp)
      have hne : ¬ x.dst = x.src := fun e => h2 (.inr (.inr e.symm))
      have hv : (vsets zeros [y, z]).getD x.src.toNat 0 = y.v := by
        show (vset (vset zeros y) z).getD _ 0 = _
        rw [getD_vset _ _ _ (by omega) hs.1 (by rw [vset_length, zeros_length]; omega), if_neg (by rw [hz]; exact hne), getD_vset _ _ _ (by omega) hs.1 (by rw [zeros_length]; omega), if_pos hy]
      have hw : (vsets zeros [y, z]).getD x.dst.toNat 0 = z.v := by
        show (vset (vset zeros y) z).getD _ 0 = _
        rw [getD_vset _ _ _ (by omega) hd.1 (by rw [vset_length, zeros_length]; omega), if_pos hz]
      rw [List.map_cons, List.map_cons, if_pos rfl, if_neg hne, hv, hw, List.map_nil, ← hy, ← hz]
theorem sameL_symm {α : Type} {same : α → α → Bool} (hs : ∀ x y, same x y = true ↔ x = y) (a b : List α) : sameL same a b = sameL same b a := by
  rw [Bool.eq_iff_iff, sameL_iff hs, sameL_iff hs]; exact eq_comm
theorem sameEf_w {a b : Eff} (h : a.r = b.r) : sameEf a b = ((b.d == a.d) && sameL sameE1 b.w a.w) := by
  unfold sameEf
  rw [h, sameL_refl sameE1_iff, Bool.true_and, sameL_symm sameE1_iff a.w b.w]
  congr 1
  cases a.d <;> cases b.d <;> rfl
set_option maxRecDepth 100000 in
set_option maxHeartbeats 8000000 in
theorem sSlot_any (e : Eng) (v0 v1 v2 v3 : Value) (n : Nat) (x : Actn) (t : Slt) (w : World) (h : SG w v0 v1 v2 v3 e) (hx : e.acts[n]? = some x) (hxo : x.ok = true) (ht : e.sl[n]? = some t) (hn10 : n ≤ 1000) :
    Calls Try.prog 22 #[.agg #[v0, v1, v2, v3], .int .i64 n] w fun ed w' => ed = .returned (.bool (sltOk x n t)) ∧ Up w w' := by
  obtain ⟨p0, c0, rfl, _, _⟩ := h.base.openc
  obtain ⟨p1, c1, rfl, _, hca⟩ := h.acts.open
  obtain ⟨p2, c2, rfl, _, _⟩ := h.vers.openc
  obtain ⟨p3, c3, rfl, _, hcs⟩ := h.sl.open
  obtain ⟨ba, oa, rfl, hba, -⟩ := hca n x hx
  obtain ⟨a0, a1, a2, a3⟩ := acell hca rfl hx
  obtain ⟨b, off, q0, d0, q1, d1, q2, d2, rfl, hb, ⟨e0, e1, e2, e3, e4, e5⟩, sf, sr, sw⟩ := hcs n t ht
  have hn0 : (0 : Int) ≤ (n : Int) := by omega
  have hn1 : (n : Int) < e.sl.length := by have := (List.getElem?_eq_some_iff.1 ht).1; omega
  have hn2 : (n : Int) < e.acts.length := by have := (List.getElem?_eq_some_iff.1 hx).1; omega
  have SF := Lib.hid sf; have SR := Lib.hid sr; have SW := Lib.hid sw
  have kre := fun w => sReads_any x w
  simp only [hxo, if_true] at kre
  have Hxo := Lib.hid hxo
  clear h hca hcs hx hxo ht sf sr sw
  by_cases hst : t.st = 0
  · have hst' : (t.st == 0) = true := by simpa using hst
    have hF := Lib.hid (show sltOk x n t = (decide (0 ≤ t.tr) && (decide (t.tr ≤ 1000) && (decide (t.f.length = 0) && (!t.e.d && (decide (t.e.r.length = 0) && decide (t.e.w.length = 0)))))) by unfold sltOk; rw [if_pos hst, sltNew_six])
    generalize sltOk x n t = B at *
    clear hst kre
    by_cases k1 : 0 ≤ t.tr
    rotate_left
    · have k1' : decide (0 ≤ t.tr) = false := decide_eq_false k1
      obtain rfl : B = false := by have := hF.out; rwa [k1'] at this
      clear hF
      go_enter Try.func22, Try.ntmps22
      go_wp2_with fail
      go_ret
      exact ⟨rfl, (.of (by repeat (first | (with_reducible exact Ext.refl _) | (with_reducible refine Ext.up ?_ _) | (with_reducible refine Ext.alloc ?_ _) | (with_reducible refine Ext.drew ?_) | (with_reducible refine Ext.setRow ?_ (by first | exact LeS.le | exact LeS.add _ | (simp; done) | (simp; omega)) _) | (with_reducible refine Ext.setCell ?_ (by first | exact LeS.le | exact LeS.add _ | (simp; done) | (simp; omega)) _))))⟩
    have k1' : decide (0 ≤ t.tr) = true := decide_eq_true k1
    by_cases k2 : t.tr ≤ 1000
    rotate_left
    · have k2' : decide (t.tr ≤ 1000) = false := decide_eq_false k2
      obtain rfl : B = false := by have := hF.out; rwa [k1', k2'] at this
      clear hF
      go_enter Try.func22, Try.ntmps22
      go_wp2_with fail
      go_ret
      exact ⟨rfl, (.of (by repeat (first | (with_reducible exact Ext.refl _) | (with_reducible refine Ext.up ?_ _) | (with_reducible refine Ext.alloc ?_ _) | (with_reducible refine Ext.drew ?_) | (with_reducible refine Ext.setRow ?_ (by first | exact LeS.le | exact LeS.add _ | (simp; done) | (simp; omega)) _) | (with_reducible refine Ext.setCell ?_ (by first | exact LeS.le | exact LeS.add _ | (simp; done) | (simp; omega)) _))))⟩
    have k2' : decide (t.tr ≤ 1000) = true := decide_eq_true k2
    by_cases k3 : t.f.length = 0
    rotate_left
    · have k3' : ((t.f.length : Int) == 0) = false := by rw [beq_eq_false_iff_ne]; omega
      obtain rfl : B = false := by have := hF.out; rwa [k1', k2', decide_eq_false k3] at this
      clear hF k3
      go_enter Try.func22, Try.ntmps22
      go_wp2_with fail
      go_ret
      exact ⟨rfl, (.of (by repeat (first | (with_reducible exact Ext.refl _) | (with_reducible refine Ext.up ?_ _) | (with_reducible refine Ext.alloc ?_ _) | (with_reducible refine Ext.drew ?_) | (with_reducible refine Ext.setRow ?_ (by first | exact LeS.le | exact LeS.add _ | (simp; done) | (simp; omega)) _) | (with_reducible refine Ext.setCell ?_ (by first | exact LeS.le | exact LeS.add _ | (simp; done) | (simp; omega)) _))))⟩
    have k3' : ((t.f.length : Int) == 0) = true := by rw [beq_iff_eq]; omega
    have K3 := Lib.hid k3; clear k3
    rcases k4 : t.e.d with _ | _
    rotate_left
    · obtain rfl : B = false := by have := hF.out; rwa [k1', k2', decide_eq_true K3.out, k4] at this
      rw [k4] at e3
      clear hF k4 K3
      go_enter Try.func22, Try.ntmps22
      go_wp2_with fail
      go_ret
      exact ⟨rfl, (.of (by repeat (first | (with_reducible exact Ext.refl _) | (with_reducible refine Ext.up ?_ _) | (with_reducible refine Ext.alloc ?_ _) | (with_reducible refine Ext.drew ?_) | (with_reducible refine Ext.setRow ?_ (by first | exact LeS.le | exact LeS.add _ | (simp; done) | (simp; omega)) _) | (with_reducible refine Ext.setCell ?_ (by first | exact LeS.le | exact LeS.add _ | (simp; done) | (simp; omega)) _))))⟩
    rw [k4] at e3
    by_cases k5 : t.e.r.length = 0
    rotate_left
    · have k5' : ((t.e.r.length : Int) == 0) = false := by rw [beq_eq_false_iff_ne]; omega
      obtain rfl : B = false := by have := hF.out; rwa [k1', k2', decide_eq_true K3.out, k4, decide_eq_false k5] at this
      clear hF k4 K3 k5
      go_enter Try.func22, Try.ntmps22
      go_wp2_with fail
      go_ret
      exact ⟨rfl, (.of (by repeat (first | (with_reducible exact Ext.refl _) | (with_reducible refine Ext.up ?_ _) | (with_reducible refine Ext.alloc ?_ _) | (with_reducible refine Ext.drew ?_) | (with_reducible refine Ext.setRow ?_ (by first | exact LeS.le | exact LeS.add _ | (simp; done) | (simp; omega)) _) | (with_reducible refine Ext.setCell ?_ (by first | exact LeS.le | exact LeS.add _ | (simp; done) | (simp; omega)) _))))⟩
    have k5' : ((t.e.r.length : Int) == 0) = true := by rw [beq_iff_eq]; omega
    have K5 := Lib.hid k5; clear k5
    by_cases k6 : t.e.w.length = 0
    · have k6' : ((t.e.w.length : Int) == 0) = true := by rw [beq_iff_eq]; omega
      obtain rfl : B = true := by have := hF.out; rwa [k1', k2', decide_eq_true K3.out, k4, decide_eq_true K5.out, decide_eq_true k6] at this
      clear hF k4 K3 K5 k6
      go_enter Try.func22, Try.ntmps22
      go_wp2_with fail
      go_ret
      exact ⟨rfl, (.of (by repeat (first | (with_reducible exact Ext.refl _) | (with_reducible refine Ext.up ?_ _) | (with_reducible refine Ext.alloc ?_ _) | (with_reducible refine Ext.drew ?_) | (with_reducible refine Ext.setRow ?_ (by first | exact LeS.le | exact LeS.add _ | (simp; done) | (simp; omega)) _) | (with_reducible refine Ext.setCell ?_ (by first | exact LeS.le | exact LeS.add _ | (simp; done) | (simp; omega)) _))))⟩
    · have k6' : ((t.e.w.length : Int) == 0) = false := by rw [beq_eq_false_iff_ne]; omega
      obtain rfl : B = false := by have := hF.out; rwa [k1', k2', decide_eq_true K3.out, k4, decide_eq_true K5.out, decide_eq_false k6] at this
      clear hF k4 K3 K5 k6
      go_enter Try.func22, Try.ntmps22
      go_wp2_with fail
      go_ret
      exact ⟨rfl, (.of (by repeat (first | (with_reducible exact Ext.refl _) | (with_reducible refine Ext.up ?_ _) | (with_reducible refine Ext.alloc ?_ _) | (with_reducible refine Ext.drew ?_) | (with_reducible refine Ext.setRow ?_ (by first | exact LeS.le | exact LeS.add _ | (simp; done) | (simp; omega)) _) | (with_reducible refine Ext.setCell ?_ (by first | exact LeS.le | exact LeS.add _ | (simp; done) | (simp; omega)) _))))⟩
  have hst' : (t.st == 0) = false := by simpa using hst
  have hF := Lib.hid (show sltOk x n t = sltTry x n t by unfold sltOk; rw [if_neg hst])
  clear hst
  have kin1 := fun w => l1In_any t.st 1 2 w
  have kin2 := fun w => l1In_any t.tr 1 1000 w
  have hE := Lib.hid (show sltTry x n t = (inR t.st 1 2 && (inR t.tr 1 1000 && (decide (t.e.r.length = x.rk.length) && (decide (t.f.length = x.rk.length) && (upTo (rdAt x.rk n t.f t.e.r) t.e.r.length && sameEf (runV (vsets zeros t.e.r) x) t.e))))) from rfl)
  rw [hF.out]
  clear hF
  generalize sltTry x n t = B at *
  go_enter Try.func22, Try.ntmps22
  go_wp2_with fail
  refine (kre _).mono ?_; rintro ed w' ⟨vk, rfl, ⟨z1, rfl⟩, ok⟩
  obtain ⟨pk, ck, rfl, hkl, hck⟩ := (ok.sl encI_length).open
  have HCK := Lib.hid hck
  clear ok hck kre
  by_cases g3 : t.e.r.length = x.rk.length
  rotate_left
  · have g3' : ((t.e.r.length : Int) != (x.rk.length : Int)) = true := by rw [bne_iff_ne]; omega
    obtain rfl : B = false := by have := hE.out; rw [decide_eq_false g3] at this; simpa using this
    clear g3 hE
    go_wp2_with fail
    go_ret
    exact ⟨rfl, (.of (by repeat (first | (with_reducible exact Ext.refl _) | (with_reducible refine Ext.up ?_ _) | (with_reducible refine Ext.alloc ?_ _) | (with_reducible refine Ext.drew ?_) | (with_reducible refine Ext.setRow ?_ (by first | exact LeS.le | exact LeS.add _ | (simp; done) | (simp; omega)) _) | (with_reducible refine Ext.setCell ?_ (by first | exact LeS.le | exact LeS.add _ | (simp; done) | (simp; omega)) _))))⟩
  have g3' : ((t.e.r.length : Int) != (x.rk.length : Int)) = false := by rw [bne_eq_false_iff_eq]; omega
  have h3 := Lib.hid g3; clear g3
  by_cases g4 : t.f.length = x.rk.length
  rotate_left
  · have g4' : ((t.f.length : Int) != (x.rk.length : Int)) = true := by rw [bne_iff_ne]; omega
    obtain rfl : B = false := by have := hE.out; rw [decide_eq_false g4] at this; simpa using this
    clear g4 hE
    go_wp2_with fail
    go_ret
    exact ⟨rfl, (.of (by repeat (first | (with_reducible exact Ext.refl _) | (with_reducible refine Ext.up ?_ _) | (with_reducible refine Ext.alloc ?_ _) | (with_reducible refine Ext.drew ?_) | (with_reducible refine Ext.setRow ?_ (by first | exact LeS.le | exact LeS.add _ | (simp; done) | (simp; omega)) _) | (with_reducible refine Ext.setCell ?_ (by first | exact LeS.le | exact LeS.add _ | (simp; done) | (simp; omega)) _))))⟩
  have g4' : ((t.f.length : Int) != (x.rk.length : Int)) = false := by rw [bne_eq_false_iff_eq]; omega
  have h4 := Lib.hid g4; clear g4
  rcases g2 : inR t.tr 1 1000 with _ | _
  · obtain rfl : B = false := by have := hE.out; rw [g2] at this; simpa using this
    rw [g2] at kin2
    clear g2 hE
    go_wp2_with fail
    refine (kin2 _).mono ?_; rintro ed w' ⟨rfl, rfl⟩
    go_wp2_with fail
    go_ret
    exact ⟨rfl, (.of (by repeat (first | (with_reducible exact Ext.refl _) | (with_reducible refine Ext.up ?_ _) | (with_reducible refine Ext.alloc ?_ _) | (with_reducible refine Ext.drew ?_) | (with_reducible refine Ext.setRow ?_ (by first | exact LeS.le | exact LeS.add _ | (simp; done) | (simp; omega)) _) | (with_reducible refine Ext.setCell ?_ (by first | exact LeS.le | exact LeS.add _ | (simp; done) | (simp; omega)) _))))⟩
  rw [g2] at kin2
  rcases g1 : inR t.st 1 2 with _ | _
  · obtain rfl : B = false := by have := hE.out; rw [g1] at this; simpa using this
    rw [g1] at kin1
    clear g1 g2 hE
    go_wp2_with fail
    refine (kin2 _).mono ?_; rintro ed w' ⟨rfl, rfl⟩
    go_wp2_with fail
    refine (kin1 _).mono ?_; rintro ed w' ⟨rfl, rfl⟩
    go_wp2_with fail
    go_ret
    exact ⟨rfl, (.of (by repeat (first | (with_reducible exact Ext.refl _) | (with_reducible refine Ext.up ?_ _) | (with_reducible refine Ext.alloc ?_ _) | (with_reducible refine Ext.drew ?_) | (with_reducible refine Ext.setRow ?_ (by first | exact LeS.le | exact LeS.add _ | (simp; done) | (simp; omega)) _) | (with_reducible refine Ext.setCell ?_ (by first | exact LeS.le | exact LeS.add _ | (simp; done) | (simp; omega)) _))))⟩
  rw [g1] at kin1
  obtain rfl : B = (upTo (rdAt x.rk n t.f t.e.r) t.e.r.length && sameEf (runV (vsets zeros t.e.r) x) t.e) := by have := hE.out; rw [g1, g2, decide_eq_true h3.out, decide_eq_true h4.out] at this; simpa using this
  have hrl : t.e.r.length ≤ 2 := by rw [h3.out]; exact Actn.rk_le x
  obtain ⟨_, _, e9, _, hcr⟩ := SR.out.open
  cases e9
  obtain ⟨_, _, e9, _, hcf⟩ := SF.out.open
  cases e9
  have HCR := Lib.hid hcr; have HCF := Lib.hid hcf
  have hxp := Hxo.out
  simp only [Actn.ok, Bool.and_eq_true, inR_iff] at hxp
  obtain ⟨⟨s0, s1⟩, ⟨t0, t1⟩, -⟩ := hxp
  clear g1 g2 hE hcr hcf
  go_wp2_with fail
  refine (kin2 _).mono ?_; rintro ed w' ⟨rfl, rfl⟩
  go_wp2_with fail
  refine (kin1 _).mono ?_; rintro ed w' ⟨rfl, rfl⟩
  clear kin1 kin2
  have hnw : IntKind.i64.wrap ((n : Int) - 1) = (n : Int) - 1 := IntWalk.i64_in _ ⟨by omega, by omega⟩
  go_wp2_with fail
  go_loopw [7, 8, 9, 10] (fun s7 s8 s9 _ wr => ∃ (k : Nat), s9 = .int .i64 k ∧ s7 = .int .i64 ((vsets zeros (t.e.r.take k)).getD x.src.toNat 0) ∧ s8 = .int .i64 ((vsets zeros (t.e.r.take k)).getD x.dst.toNat 0) ∧ k ≤ x.rk.length ∧ Up z1.val wr ∧ upTo (rdAt x.rk n t.f t.e.r) k = true) (fun _ _ s9 _ _ => x.rk.length - (intOf s9).toNat)
  case atStart => exact ⟨0, rfl, by show _ = Value.int .i64 (zeros.getD _ 0); rw [List.getD_eq_getElem?_getD, zeros_get (by omega)]; rfl, by show _ = Value.int .i64 (zeros.getD _ 0); rw [List.getD_eq_getElem?_getD, zeros_get (by omega)]; rfl, Nat.zero_le _, (.of (by repeat (first | (with_reducible exact Ext.refl _) | (with_reducible refine Ext.up ?_ _) | (with_reducible refine Ext.alloc ?_ _) | (with_reducible refine Ext.drew ?_) | (with_reducible refine Ext.setRow ?_ (by first | exact LeS.le | exact LeS.add _ | (simp; done) | (simp; omega)) _) | (with_reducible refine Ext.setCell ?_ (by first | exact LeS.le | exact LeS.add _ | (simp; done) | (simp; omega)) _)))), rfl⟩
  case round =>
    obtain ⟨k, rfl, rfl, rfl, hk, ⟨z, rfl⟩, hall⟩ := hrel
    have HALL := Lib.hid hall
    by_cases hlt : k < x.rk.length
    · clear hall
      obtain ⟨y, hy⟩ := getElem?_some_of_lt (l := t.e.r) (k := k) (by rw [h3.out]; exact hlt)
      obtain ⟨key, hkey⟩ := getElem?_some_of_lt hlt
      obtain ⟨q, hq⟩ := getElem?_some_of_lt (l := t.f) (k := k) (by rw [h4.out]; exact hlt)
      obtain ⟨kk0, kk1⟩ := Actn.rk_in Hxo.out key (List.mem_of_getElem? hkey)
      have Hat := Lib.hid (rdAt_eq (n := (n : Int)) hy hkey hq)
      obtain ⟨g, fo, rfl, hbg, hcc⟩ := HCR.out k y hy
      obtain ⟨g2, fo2, rfl, hbg2, hcc2⟩ := HCK.out k key hkey
      obtain ⟨g5, fo5, rfl, hbg5, hcc5⟩ := HCF.out k q hq
      have y0 : w.cell? ⟨g, fo + k * 2, none⟩ = some (.int .i64 y.k) := hcc 0 _ rfl
      have y1 : w.cell? ⟨g, fo + k * 2 + 1, none⟩ = some (.int .i64 y.v) := hcc 1 _ rfl
      have y2 : z1.val.cell? ⟨g2, fo2 + k, none⟩ = some (.int .i64 key) := by have := hcc2 0 _ rfl; simpa using this
      have y3 : w.cell? ⟨g5, fo5 + k, none⟩ = some (.int .i64 q) := by have := hcc5 0 _ rfl; simpa using this
      have hlen : (vsets zeros (t.e.r.take k)).length = 32 := by rw [vsets_length, zeros_length]
      have Hsn := Lib.hid (vsets_snoc zeros hy)
      generalize vsets zeros (t.e.r.take k) = V at *
      have Hlen := Lib.hid hlen; clear hlen
      generalize hfs : V.getD x.src.toNat 0 = fs at *
      generalize hfd : V.getD x.dst.toNat 0 = fd at *
      have Hfs := Lib.hid hfs; have Hfd := Lib.hid hfd
      have ka0 : (0 : Int) ≤ (k : Int) := by omega
      have ka1 : (k : Int) < t.e.r.length := by rw [h3.out]; omega
      have ka2 : (k : Int) < x.rk.length := by omega
      have ka3 : (k : Int) < t.f.length := by rw [h4.out]; omega
      have hkr : k < t.e.r.length := by omega
      have kv := fun w => l1In_any y.v 0 1000000 w
      have ki := fun w => l1In_any q (-1) ((n : Int) - 1) w
      clear hy hkey hq hcc hcc2 hcc5 hfs hfd
      rcases guards3 (y.k == key) (inR y.v 0 1000000) (inR q (-1) ((n : Int) - 1)) with g1 | ⟨g1, g2'⟩ | ⟨g1, g2', g3''⟩ | ⟨g1, g2', g3''⟩
      · have g1' : (y.k != key) = true := by rw [bne, g1]; rfl
        have Hf := Lib.hid (upTo_false (f := rdAt x.rk n t.f t.e.r) hkr (by rw [Hat.out, g1]; rfl))
        clear g1
        go_wp2_with fail
        (refine wp_region_up (by kernel_rfl) (by kernel_rfl) ?_; (repeat (go_big_quiet_step (fail))); refine wpQuiet_nil ?_; intro _ hw'; obtain ⟨zq, hw''⟩ := hw'; subst hw'')
        go_wp2_with fail
        go_ret
        exact ⟨by rw [Hf.out]; rfl, (.of (by repeat (first | (with_reducible exact Ext.refl _) | (with_reducible refine Ext.up ?_ _) | (with_reducible refine Ext.alloc ?_ _) | (with_reducible refine Ext.drew ?_) | (with_reducible refine Ext.setRow ?_ (by first | exact LeS.le | exact LeS.add _ | (simp; done) | (simp; omega)) _) | (with_reducible refine Ext.setCell ?_ (by first | exact LeS.le | exact LeS.add _ | (simp; done) | (simp; omega)) _))))⟩
      · have g1' : (y.k != key) = false := by rw [bne, g1]; rfl
        have Hf := Lib.hid (upTo_false (f := rdAt x.rk n t.f t.e.r) hkr (by rw [Hat.out, g1, g2']; rfl))
        rw [g2'] at kv
        clear g1 g2'
        go_wp2_with fail
        (refine wp_region_up (by kernel_rfl) (by kernel_rfl) ?_; (repeat (go_big_quiet_step ((go_at_call 49; exact Calls.up_same (kv _))))); refine wpQuiet_nil ?_; intro _ hw'; obtain ⟨zq, hw''⟩ := hw'; subst hw'')
        go_wp2_with fail
        go_ret
        exact ⟨by rw [Hf.out]; rfl, (.of (by repeat (first | (with_reducible exact Ext.refl _) | (with_reducible refine Ext.up ?_ _) | (with_reducible refine Ext.alloc ?_ _) | (with_reducible refine Ext.drew ?_) | (with_reducible refine Ext.setRow ?_ (by first | exact LeS.le | exact LeS.add _ | (simp; done) | (simp; omega)) _) | (with_reducible refine Ext.setCell ?_ (by first | exact LeS.le | exact LeS.add _ | (simp; done) | (simp; omega)) _))))⟩
      · have g1' : (y.k != key) = false := by rw [bne, g1]; rfl
        have Hf := Lib.hid (upTo_false (f := rdAt x.rk n t.f t.e.r) hkr (by rw [Hat.out, g1, g2', g3'']; rfl))
        rw [g2'] at kv; rw [g3''] at ki
        clear g1 g2' g3''
        go_wp2_with fail
        (refine wp_region_up (by kernel_rfl) (by kernel_rfl) ?_; (repeat (go_big_quiet_step (first | (go_at_call 49; with_reducible exact Calls.up_same (kv _)) | (go_at_call 49; with_reducible exact Calls.up_same (ki _))))); refine wpQuiet_nil ?_; intro _ hw'; obtain ⟨zq, hw''⟩ := hw'; subst hw'')
        go_wp2_with fail
        go_ret
        exact ⟨by rw [Hf.out]; rfl, (.of (by repeat (first | (with_reducible exact Ext.refl _) | (with_reducible refine Ext.up ?_ _) | (with_reducible refine Ext.alloc ?_ _) | (with_reducible refine Ext.drew ?_) | (with_reducible refine Ext.setRow ?_ (by first | exact LeS.le | exact LeS.add _ | (simp; done) | (simp; omega)) _) | (with_reducible refine Ext.setCell ?_ (by first | exact LeS.le | exact LeS.add _ | (simp; done) | (simp; omega)) _))))⟩
      · have g1' : (y.k != key) = false := by rw [bne, g1]; rfl
        obtain rfl : y.k = key := by simpa using g1
        have Ht := Lib.hid (upTo_succ (f := rdAt x.rk n t.f t.e.r) HALL.out (by rw [Hat.out, g2', g3'']; simp))
        rw [g2'] at kv; rw [g3''] at ki
        have hS := Lib.hid (show (vset V y).getD x.src.toNat 0 = if y.k = x.src then y.v else fs by rw [getD_vset _ _ _ kk0 s0 (by rw [Hlen.out]; omega), Hfs.out])
        have hD := Lib.hid (show (vset V y).getD x.dst.toNat 0 = if y.k = x.dst then y.v else fd by rw [getD_vset _ _ _ kk0 t0 (by rw [Hlen.out]; omega), Hfd.out])
        clear g1 g2' g3''
        by_cases u1 : y.k = x.src
        · have u1' : (y.k == x.src) = true := by simpa using u1
          rw [if_pos u1] at hS
          clear u1
          by_cases u2 : y.k = x.dst
          · have u2' : (y.k == x.dst) = true := by simpa using u2
            rw [if_pos u2] at hD
            clear u2
            go_wp2_with fail
            (refine wp_region_up (by kernel_rfl) (by kernel_rfl) ?_; (repeat (go_big_quiet_step (first | (go_at_call 49; with_reducible exact Calls.up_same (kv _)) | (go_at_call 49; with_reducible exact Calls.up_same (ki _))))); refine wpQuiet_nil ?_; intro _ hw'; obtain ⟨zq, hw''⟩ := hw'; subst hw'')
            go_wp2_with fail
            (refine wp_region_up (by kernel_rfl) (by kernel_rfl) ?_; (repeat (go_big_quiet_step (fail))); refine wpQuiet_nil ?_; intro _ hw'; obtain ⟨zq, hw''⟩ := hw'; subst hw'')
            go_wp2_with fail
            (refine wp_region_up (by kernel_rfl) (by kernel_rfl) ?_; (repeat (go_big_quiet_step (fail))); refine wpQuiet_nil ?_; intro _ hw'; obtain ⟨zq, hw''⟩ := hw'; subst hw'')
            go_wp2_with fail
            go_roundw
            case rel => exact ⟨k + 1, by go_num, by rw [Hsn.out, hS.out], by rw [Hsn.out, hD.out], by omega, (.of (by repeat (first | (with_reducible exact Ext.refl _) | (with_reducible refine Ext.up ?_ _) | (with_reducible refine Ext.alloc ?_ _) | (with_reducible refine Ext.drew ?_) | (with_reducible refine Ext.setRow ?_ (by first | exact LeS.le | exact LeS.add _ | (simp; done) | (simp; omega)) _) | (with_reducible refine Ext.setCell ?_ (by first | exact LeS.le | exact LeS.add _ | (simp; done) | (simp; omega)) _)))), Ht.out⟩
            case measure => simp [intOf] <;> omega
          · have u2' : (y.k == x.dst) = false := by simpa using u2
            rw [if_neg u2] at hD
            clear u2
            go_wp2_with fail
            (refine wp_region_up (by kernel_rfl) (by kernel_rfl) ?_; (repeat (go_big_quiet_step (first | (go_at_call 49; with_reducible exact Calls.up_same (kv _)) | (go_at_call 49; with_reducible exact Calls.up_same (ki _))))); refine wpQuiet_nil ?_; intro _ hw'; obtain ⟨zq, hw''⟩ := hw'; subst hw'')
            go_wp2_with fail
            (refine wp_region_up (by kernel_rfl) (by kernel_rfl) ?_; (repeat (go_big_quiet_step (fail))); refine wpQuiet_nil ?_; intro _ hw'; obtain ⟨zq, hw''⟩ := hw'; subst hw'')
            go_wp2_with fail
            (refine wp_region_up (by kernel_rfl) (by kernel_rfl) ?_; (repeat (go_big_quiet_step (fail))); refine wpQuiet_nil ?_; intro _ hw'; obtain ⟨zq, hw''⟩ := hw'; subst hw'')
            go_wp2_with fail
            go_roundw
            case rel => exact ⟨k + 1, by go_num, by rw [Hsn.out, hS.out], by rw [Hsn.out, hD.out], by omega, (.of (by repeat (first | (with_reducible exact Ext.refl _) | (with_reducible refine Ext.up ?_ _) | (with_reducible refine Ext.alloc ?_ _) | (with_reducible refine Ext.drew ?_) | (with_reducible refine Ext.setRow ?_ (by first | exact LeS.le | exact LeS.add _ | (simp; done) | (simp; omega)) _) | (with_reducible refine Ext.setCell ?_ (by first | exact LeS.le | exact LeS.add _ | (simp; done) | (simp; omega)) _)))), Ht.out⟩
            case measure => simp [intOf] <;> omega
        · have u1' : (y.k == x.src) = false := by simpa using u1
          rw [if_neg u1] at hS
          clear u1
          by_cases u2 : y.k = x.dst
          · have u2' : (y.k == x.dst) = true := by simpa using u2
            rw [if_pos u2] at hD
            clear u2
            go_wp2_with fail
            (refine wp_region_up (by kernel_rfl) (by kernel_rfl) ?_; (repeat (go_big_quiet_step (first | (go_at_call 49; with_reducible exact Calls.up_same (kv _)) | (go_at_call 49; with_reducible exact Calls.up_same (ki _))))); refine wpQuiet_nil ?_; intro _ hw'; obtain ⟨zq, hw''⟩ := hw'; subst hw'')
            go_wp2_with fail
            (refine wp_region_up (by kernel_rfl) (by kernel_rfl) ?_; (repeat (go_big_quiet_step (fail))); refine wpQuiet_nil ?_; intro _ hw'; obtain ⟨zq, hw''⟩ := hw'; subst hw'')
            go_wp2_with fail
            (refine wp_region_up (by kernel_rfl) (by kernel_rfl) ?_; (repeat (go_big_quiet_step (fail))); refine wpQuiet_nil ?_; intro _ hw'; obtain ⟨zq, hw''⟩ := hw'; subst hw'')
            go_wp2_with fail
            go_roundw
            case rel => exact ⟨k + 1, by go_num, by rw [Hsn.out, hS.out], by rw [Hsn.out, hD.out], by omega, (.of (by repeat (first | (with_reducible exact Ext.refl _) | (with_reducible refine Ext.up ?_ _) | (with_reducible refine Ext.alloc ?_ _) | (with_reducible refine Ext.drew ?_) | (with_reducible refine Ext.setRow ?_ (by first | exact LeS.le | exact LeS.add _ | (simp; done) | (simp; omega)) _) | (with_reducible refine Ext.setCell ?_ (by first | exact LeS.le | exact LeS.add _ | (simp; done) | (simp; omega)) _)))), Ht.out⟩
            case measure => simp [intOf] <;> omega
          · have u2' : (y.k == x.dst) = false := by simpa using u2
            rw [if_neg u2] at hD
            clear u2
            go_wp2_with fail
            (refine wp_region_up (by kernel_rfl) (by kernel_rfl) ?_; (repeat (go_big_quiet_step (first | (go_at_call 49; with_reducible exact Calls.up_same (kv _)) | (go_at_call 49; with_reducible exact Calls.up_same (ki _))))); refine wpQuiet_nil ?_; intro _ hw'; obtain ⟨zq, hw''⟩ := hw'; subst hw'')
            go_wp2_with fail
            (refine wp_region_up (by kernel_rfl) (by kernel_rfl) ?_; (repeat (go_big_quiet_step (fail))); refine wpQuiet_nil ?_; intro _ hw'; obtain ⟨zq, hw''⟩ := hw'; subst hw'')
            go_wp2_with fail
            (refine wp_region_up (by kernel_rfl) (by kernel_rfl) ?_; (repeat (go_big_quiet_step (fail))); refine wpQuiet_nil ?_; intro _ hw'; obtain ⟨zq, hw''⟩ := hw'; subst hw'')
            go_wp2_with fail
            go_roundw
            case rel => exact ⟨k + 1, by go_num, by rw [Hsn.out, hS.out], by rw [Hsn.out, hD.out], by omega, (.of (by repeat (first | (with_reducible exact Ext.refl _) | (with_reducible refine Ext.up ?_ _) | (with_reducible refine Ext.alloc ?_ _) | (with_reducible refine Ext.drew ?_) | (with_reducible refine Ext.setRow ?_ (by first | exact LeS.le | exact LeS.add _ | (simp; done) | (simp; omega)) _) | (with_reducible refine Ext.setCell ?_ (by first | exact LeS.le | exact LeS.add _ | (simp; done) | (simp; omega)) _)))), Ht.out⟩
            case measure => simp [intOf] <;> omega
    · obtain rfl : k = x.rk.length := by omega
      rw [show t.e.r.take x.rk.length = t.e.r from List.take_of_length_le (by rw [h3.out]; exact Nat.le_refl _)]
      have hall' : upTo (rdAt x.rk n t.f t.e.r) t.e.r.length = true := by rw [h3.out]; exact hall
      have hkeys : ∀ (i : Nat) y k, t.e.r[i]? = some y → x.rk[i]? = some k → y.k = k := by
        intro i y k hi hk2
        have hil := (List.getElem?_eq_some_iff.1 hi).1
        obtain ⟨q, hq⟩ := getElem?_some_of_lt (l := t.f) (k := i) (by rw [h4.out, ← h3.out]; exact hil)
        have := upTo_iff.1 hall' i hil
        rw [rdAt_eq hi hk2 hq] at this
        simp only [Bool.and_eq_true, beq_iff_eq] at this
        exact this.1
      have hVi : valsIn (vsets zeros t.e.r) := by
        refine valsIn_vsets (fun y hy => ?_) ⟨zeros_length, fun z hz => by have := List.eq_of_mem_replicate hz; omega⟩
        obtain ⟨i, hi⟩ := List.getElem?_of_mem hy
        have hil := (List.getElem?_eq_some_iff.1 hi).1
        obtain ⟨k, hk⟩ := getElem?_some_of_lt (l := x.rk) (k := i) (by rw [← h3.out]; exact hil)
        obtain ⟨q, hq⟩ := getElem?_some_of_lt (l := t.f) (k := i) (by rw [h4.out, ← h3.out]; exact hil)
        have := upTo_iff.1 hall' i hil
        rw [rdAt_eq hi hk hq] at this
        simp only [Bool.and_eq_true, inR_iff] at this
        omega
      have hB := Lib.hid (show (upTo (rdAt x.rk n t.f t.e.r) t.e.r.length && sameEf (runV (vsets zeros t.e.r) x) t.e) = ((t.e.d == (runE x ((vsets zeros t.e.r).getD x.src.toNat 0) ((vsets zeros t.e.r).getD x.dst.toNat 0)).d) && sameL sameE1 t.e.w (runE x ((vsets zeros t.e.r).getD x.src.toNat 0) ((vsets zeros t.e.r).getD x.dst.toNat 0)).w) by rw [hall', Bool.true_and, sameEf_w (runV_reads Hxo.out h3.out hkeys)]; rfl)
      have hgs := valsIn_get hVi x.src.toNat
      have hgd := valsIn_get hVi x.dst.toNat
      have krun := fun w => l6Run_any x ((vsets zeros t.e.r).getD x.src.toNat 0) ((vsets zeros t.e.r).getD x.dst.toNat 0) w Hxo.out hgs.1 hgs.2 hgd.1 hgd.2
      clear hgs hgd
      generalize (vsets zeros t.e.r).getD x.src.toNat 0 = fs at hB krun ⊢
      generalize (vsets zeros t.e.r).getD x.dst.toNat 0 = fd at hB krun ⊢
      generalize runE x fs fd = E at hB krun
      have kse := fun v w h h' => sSameEnts_any t.e.w E.w (.slice q2 t.e.w.length d2) v w h h'
      clear hall hall' hkeys hVi
      go_wp2_with fail
      refine (krun _).mono ?_; rintro ed w' ⟨vr, vw, rfl, ⟨z8, rfl⟩, o1, o2, _⟩
      obtain ⟨y1, f1, rfl, _, _⟩ := (o1.sl Ent.enc_length).openc
      obtain ⟨y2, f2, rfl, _, _⟩ := (o2.sl Ent.enc_length).openc
      have O2 := Lib.hid (o2.sl Ent.enc_length)
      clear o1 o2 krun
      rcases hd : (t.e.d == E.d) with _ | _
      · rw [hd] at hB
        go_wp2_with fail
        go_ret
        exact ⟨by rw [hB.out]; rfl, (.of (by repeat (first | (with_reducible exact Ext.refl _) | (with_reducible refine Ext.up ?_ _) | (with_reducible refine Ext.alloc ?_ _) | (with_reducible refine Ext.drew ?_) | (with_reducible refine Ext.setRow ?_ (by first | exact LeS.le | exact LeS.add _ | (simp; done) | (simp; omega)) _) | (with_reducible refine Ext.setCell ?_ (by first | exact LeS.le | exact LeS.add _ | (simp; done) | (simp; omega)) _))))⟩
      · rw [hd, Bool.true_and] at hB
        generalize sameL sameE1 t.e.w E.w = bw at *
        go_wp2_with fail
        refine (kse _ _ (SW.out.up (by repeat (first | (with_reducible exact Ext.refl _) | (with_reducible refine Ext.up ?_ _) | (with_reducible refine Ext.alloc ?_ _) | (with_reducible refine Ext.drew ?_) | (with_reducible refine Ext.setRow ?_ (by first | exact LeS.le | exact LeS.add _ | (simp; done) | (simp; omega)) _) | (with_reducible refine Ext.setCell ?_ (by first | exact LeS.le | exact LeS.add _ | (simp; done) | (simp; omega)) _)))) (O2.out.up (by repeat (first | (with_reducible exact Ext.refl _) | (with_reducible refine Ext.up ?_ _) | (with_reducible refine Ext.alloc ?_ _) | (with_reducible refine Ext.drew ?_) | (with_reducible refine Ext.setRow ?_ (by first | exact LeS.le | exact LeS.add _ | (simp; done) | (simp; omega)) _) | (with_reducible refine Ext.setCell ?_ (by first | exact LeS.le | exact LeS.add _ | (simp; done) | (simp; omega)) _))))).mono ?_; rintro ed w' ⟨rfl, ⟨z9, rfl⟩⟩
        go_wp2_with fail
        go_ret
        exact ⟨by rw [hB.out]; rfl, (.of (by repeat (first | (with_reducible exact Ext.refl _) | (with_reducible refine Ext.up ?_ _) | (with_reducible refine Ext.alloc ?_ _) | (with_reducible refine Ext.drew ?_) | (with_reducible refine Ext.setRow ?_ (by first | exact LeS.le | exact LeS.add _ | (simp; done) | (simp; omega)) _) | (with_reducible refine Ext.setCell ?_ (by first | exact LeS.le | exact LeS.add _ | (simp; done) | (simp; omega)) _))))⟩
end Go.Proofs.Ytnknamddonjnjaa
namespace Go.Proofs.Ytnknamddonjnjaa
open Go Go.RowKit Go.Proofs

end Go.Proofs.Ytnknamddonjnjaa
namespace Go.Proofs.Ytnknamddonjnjaa
open Go Go.RowKit Go.Proofs

/-- One block more in a slice of blocks of the call's own. -/
theorem OB.snoc {eB eA lo : Nat} {w w' : World} {v v' : Value} {bs : List TB} {x : TB} (h : OB eB eA lo w v bs) (hg : w.grownBy w' v.ownBlock) (hb : v'.ownBlock = v.ownBlock ∨ v'.ownBlock = some w.heap.size)
    (ho : Own TB.enc eB 6 lo w' v' (bs ++ [x])) (hx : Own Actn.enc eA 4 lo w x.v x.l) (ax : Apart x.v v) (ap : ∀ y ∈ bs, Apart y.v x.v) : OB eB eA lo w' v' (bs ++ [x]) := by
  refine ⟨ho, fun y hy => ?_, ?_⟩
  · rcases List.mem_append.1 hy with hy | hy
    · obtain ⟨a1, a2⟩ := h.2.1 y hy
      exact ⟨a1.keep hg a2, Apart.grown a1 a2 (Nat.le_refl _) hb⟩
    · rw [List.mem_singleton] at hy; subst hy
      exact ⟨hx.keep hg ax, Apart.grown hx ax (Nat.le_refl _) hb⟩
  · rw [List.pairwise_append]
    refine ⟨h.2.2, List.pairwise_singleton _ _, fun y hy z hz => ?_⟩
    rw [List.mem_singleton] at hz; subst hz
    exact ap y hy
theorem keepRow0 {α : Type} {enc : α → List Value} {e sz lo rb : Nat} {w W1 w7 : World} {v : Value} {l : List α} {o r : Obj} (hG : w.grownBy W1 (some rb)) (hown : Own enc e sz lo W1 v l) (hlt : rb < lo) (hw : w.heap.size ≤ lo) (hr : W1.heap[rb]? = some r) (g8 : (W1.alloc o).grownBy w7 v.ownBlock) :
    w7.heap[rb]? = some r ∧ w.grownBy w7 (some rb) := by
  have hs : rb < W1.heap.size := (Array.getElem?_eq_some_iff.1 hr).1
  constructor
  · refine (g8.block rb (by simp; omega) (fun e => ?_)).trans ((heap_alloc_old W1 o hs).trans hr)
    rcases hown.ne_rb hlt with h | h
    · rw [h] at e; cases e
    · exact h e.symm
  · have hG2 := GB.alloc hG o
    refine ⟨g8.os.trans hG2.os, g8.tape.trans hG2.tape, g8.output.trans hG2.output, Nat.le_trans hG2.size g8.size, fun n hn hne => ?_⟩
    refine (g8.block n (Nat.lt_of_lt_of_le hn hG2.size) (fun e => ?_)).trans (hG2.block n hn hne)
    have := (World.ownsRow.lt hown n e.symm).1
    omega
/-- A tree's three slices, of the call's own, no two in one block. -/
structure OTA (eE eB eA eI lo : Nat) (w : World) (v0 v1 v2 : Value) (base : List Ent) (bs : List TB) (pr : List Int) : Prop where
  obase : Own Ent.enc eE 2 lo w v0 base
  obs : OB eB eA lo w v1 bs
  opr : Own encI eI 1 lo w v2 pr
  a01 : Apart v0 v1
  a21 : Apart v2 v1
  a02 : Apart v0 v2
  in0 : ∀ x ∈ bs, Apart x.v v0
  in2 : ∀ x ∈ bs, Apart x.v v2
theorem OTA.st {eE eB eA eI lo : Nat} {w : World} {v0 v1 v2 : Value} {base : List Ent} {bs : List TB} {pr : List Int} (h : OTA eE eB eA eI lo w v0 v1 v2 base bs pr) : ST w v0 v1 v2 ⟨base, bs.map TB.core, pr⟩ :=
  ⟨h.obase.sl Ent.enc_length, h.obs.sb, h.opr.sl encI_length⟩
theorem OTA.st' {eE eB eA eI lo : Nat} {w : World} {v0 v1 v2 : Value} {bs : List TB} {t : Tree} (h : OTA eE eB eA eI lo w v0 v1 v2 t.base bs t.pr) (hb : bs.map TB.core = t.bs) : ST w v0 v1 v2 t := by
  have := h.st
  rw [hb] at this
  exact this
theorem OTA.up {eE eB eA eI lo : Nat} {w w' : World} {v0 v1 v2 : Value} {base : List Ent} {bs : List TB} {pr : List Int} (h : OTA eE eB eA eI lo w v0 v1 v2 base bs pr) (hE : Ext w w') : OTA eE eB eA eI lo w' v0 v1 v2 base bs pr :=
  ⟨h.obase.up hE, h.obs.up hE, h.opr.up hE, h.a01, h.a21, h.a02, h.in0, h.in2⟩
theorem OTA.lo {eE eB eA eI lo lo' : Nat} {w : World} {v0 v1 v2 : Value} {base : List Ent} {bs : List TB} {pr : List Int} (h : OTA eE eB eA eI lo w v0 v1 v2 base bs pr) (hl : lo' ≤ lo) : OTA eE eB eA eI lo' w v0 v1 v2 base bs pr :=
  ⟨h.obase.lo hl, h.obs.lo hl, h.opr.lo hl, h.a01, h.a21, h.a02, h.in0, h.in2⟩
end Go.Proofs.Ytnknamddonjnjaa
