/- Plain ground: worlds in which some blocks may have turned. Walks: comparisons and marks of slices of layers (the laws' helpers). The law FnExactBranchLayers's walk. -/
import Derived.Test.YteiemjebdhmnaaaGreatGLxTop05
import Derived.Test.YteiemjebdhmnaaaGreatGLxTop10
import Derived.Test.YteiemjebdhmnaaaGreatGLxTop26
import Derived.Test.YteiemjebdhmnaaaGreatGLxTop01
import Derived.Test.YteiemjebdhmnaaaGreatGLxTop29
import Derived.Test.YteiemjebdhmnaaaGreatGLxTop30
import Derived.Test.YteiemjebdhmnaaaGreatGLxTop21
set_option linter.unusedSimpArgs false
set_option linter.unusedVariables false
namespace Go.Proofs.YteiemjebdhmnaaaGreat
open Go Go.RowKit Go.Proofs

theorem Own.ap {α : Type} {enc : α → List Value} {e sz lo : Nat} {w : World} {v : Value} {l : List α} (h : Own enc e sz lo w v l) {g : Nat} (i : Nat) (u : Value) (hap : v.ownBlock = none ∨ v.ownBlock ≠ some g) : Own enc e sz lo (w.setCell ⟨g, i, none⟩ u) v l :=
  Own.kept h (grownBy_set w ⟨g, i, none⟩ u) hap
/-- Blocks that meet B may have turned, no others. -/
structure Chg (w w' : World) (B : Nat → Prop) : Prop where
  os : w'.os = w.os
  tape : w'.tape = w.tape
  output : w'.output = w.output
  size : w.heap.size ≤ w'.heap.size
  block : ∀ b, b < w.heap.size → ¬ B b → w'.heap[b]? = w.heap[b]?
theorem Chg.refl (w : World) (B : Nat → Prop) : Chg w w B := ⟨rfl, rfl, rfl, Nat.le_refl _, fun _ _ _ => rfl⟩
theorem Chg.grown {a b c : World} {B : Nat → Prop} {r : Option Nat} (h : Chg a b B) (hg : b.grownBy c r) (hr : ∀ k, r = some k → B k) : Chg a c B :=
  ⟨hg.os.trans h.os, hg.tape.trans h.tape, hg.output.trans h.output, Nat.le_trans h.size hg.size, fun n hn hB => (hg.block n (Nat.lt_of_lt_of_le hn h.size) (fun e => hB (hr n e.symm))).trans (h.block n hn hB)⟩
theorem Chg.own {α : Type} {enc : α → List Value} {e sz lo : Nat} {w w' : World} {B : Nat → Prop} {v : Value} {l : List α} (h : Own enc e sz lo w v l) (hc : Chg w w' B) (hb : ∀ k, v.ownBlock = some k → ¬ B k) : Own enc e sz lo w' v l := by
  refine ⟨h.1, ?_⟩
  rcases h.2 with h2 | ⟨g, cap, cur, hv, hlo, hg, r⟩
  · exact .inl h2
  · exact .inr ⟨g, cap, cur, hv, hlo, (hc.block g (Array.getElem?_eq_some_iff.1 hg).1 (hb g (by rw [hv]; rfl))).trans hg, r⟩
theorem Chg.ext {w0 w w' : World} {B : Nat → Prop} (hE : Ext w0 w) (hc : Chg w w' B) (hB : ∀ k, B k → w0.heap.size ≤ k) : Ext w0 w' :=
  ⟨hc.os.trans hE.1, hc.tape.trans hE.2, hc.output.trans hE.3, Nat.le_trans hE.size hc.size, fun k hk => (hc.block k (Nat.lt_of_lt_of_le hk hE.size) (fun h => by have := hB k h; omega)).trans (hE.block hk)⟩
end Go.Proofs.YteiemjebdhmnaaaGreat
namespace Go.Proofs.YteiemjebdhmnaaaGreat
open Go Go.RowKit Go.Proofs

set_option maxHeartbeats 1000000 in
theorem eqLayer_same (x : Lyr) (vw vw' : Value) (w : World) (h1 : SL (RF Ent.enc) 2 w vw x.w) (h2 : SL (RF Ent.enc) 2 w vw' x.w) :
    Calls Tryz.prog 51 #[.agg #[.int .i64 x.b, vw], .agg #[.int .i64 x.b, vw']] w fun e w' => e = .returned (.bool true) ∧ Up w w' := by
  have H1 := Lib.hid h1; have H2 := Lib.hid h2
  obtain ⟨p1, c1, rfl, _, _⟩ := h1.openc
  obtain ⟨p2, c2, rfl, _, _⟩ := h2.openc
  clear h1 h2
  go_enter Tryz.func51, Tryz.ntmps51
  go_wp2_with fail
  refine (eqEntryS_same x.w _ _ _ (H1.out.up (by repeat (first | (with_reducible exact Ext.refl _) | (with_reducible refine Ext.up ?_ _) | (with_reducible refine Ext.alloc ?_ _) | (with_reducible refine Ext.drew ?_) | (with_reducible refine Ext.setRow ?_ (by first | exact LeS.le | exact LeS.add _ | (simp; done) | (simp; omega)) _) | (with_reducible refine Ext.setCell ?_ (by first | exact LeS.le | exact LeS.add _ | (simp; done) | (simp; omega)) _)))) (H2.out.up (by repeat (first | (with_reducible exact Ext.refl _) | (with_reducible refine Ext.up ?_ _) | (with_reducible refine Ext.alloc ?_ _) | (with_reducible refine Ext.drew ?_) | (with_reducible refine Ext.setRow ?_ (by first | exact LeS.le | exact LeS.add _ | (simp; done) | (simp; omega)) _) | (with_reducible refine Ext.setCell ?_ (by first | exact LeS.le | exact LeS.add _ | (simp; done) | (simp; omega)) _))))).mono ?_; rintro e w' ⟨rfl, z1, rfl⟩
  go_wp2_with fail
  go_ret
  exact ⟨rfl, (.of (by repeat (first | (with_reducible exact Ext.refl _) | (with_reducible refine Ext.up ?_ _) | (with_reducible refine Ext.alloc ?_ _) | (with_reducible refine Ext.drew ?_) | (with_reducible refine Ext.setRow ?_ (by first | exact LeS.le | exact LeS.add _ | (simp; done) | (simp; omega)) _) | (with_reducible refine Ext.setCell ?_ (by first | exact LeS.le | exact LeS.add _ | (simp; done) | (simp; omega)) _))))⟩
set_option maxHeartbeats 1000000 in
theorem eqLayerS_same (es : List Lyr) (v v' : Value) (w : World) (h : SY w v es) (h' : SY w v' es) :
    Calls Tryz.prog 17 #[v, v'] w fun e w' => e = .returned (.bool true) ∧ Up w w' := by
  obtain ⟨a, cap, rfl, hlen, hcap, hc⟩ := h.open
  obtain ⟨a', cap', rfl, _, hcap', hc'⟩ := h'.open
  clear h h' hcap hcap'
  go_enter Tryz.func17, Tryz.ntmps17
  go_wp2_with fail
  go_loopw [5] (fun s5 wr => ∃ (k : Nat), s5 = .int .i64 k ∧ k ≤ es.length ∧ Up w wr) (fun s5 _ => es.length - (intOf s5).toNat)
  case atStart => exact ⟨0, rfl, Nat.zero_le _, .of (Ext.refl _)⟩
  case round =>
    obtain ⟨k, rfl, hk, ⟨z, rfl⟩⟩ := hrel
    by_cases hlt : k < es.length
    · obtain ⟨x, hxk⟩ := getElem?_some_of_lt hlt
      obtain ⟨b, off, q1, d1, rfl, hb, e0, e1, s1⟩ := hc k x hxk
      obtain ⟨b', off', q3, d3, rfl, hb', g0, g1, s3⟩ := hc' k x hxk
      have k0 : (0 : Int) ≤ (k : Int) := by omega
      have S1 := Lib.hid s1; have S3 := Lib.hid s3
      clear hc hc' hxk s1 s3
      go_wp2_with fail
      (refine wp_region_up (by kernel_rfl) (by kernel_rfl) ?_; (repeat (go_big_quiet_step ((go_at_call 51; exact Calls.up (eqLayer_same x _ _ _ (S1.out.up (by repeat (first | (with_reducible exact Ext.refl _) | (with_reducible refine Ext.up ?_ _) | (with_reducible refine Ext.alloc ?_ _) | (with_reducible refine Ext.drew ?_) | (with_reducible refine Ext.setRow ?_ (by first | exact LeS.le | exact LeS.add _ | (simp; done) | (simp; omega)) _) | (with_reducible refine Ext.setCell ?_ (by first | exact LeS.le | exact LeS.add _ | (simp; done) | (simp; omega)) _)))) (S3.out.up (by repeat (first | (with_reducible exact Ext.refl _) | (with_reducible refine Ext.up ?_ _) | (with_reducible refine Ext.alloc ?_ _) | (with_reducible refine Ext.drew ?_) | (with_reducible refine Ext.setRow ?_ (by first | exact LeS.le | exact LeS.add _ | (simp; done) | (simp; omega)) _) | (with_reducible refine Ext.setCell ?_ (by first | exact LeS.le | exact LeS.add _ | (simp; done) | (simp; omega)) _))))))))); refine wpQuiet_nil ?_; intro _ hw'; obtain ⟨zq, hw''⟩ := hw'; subst hw'')
      go_wp2_with fail
      go_roundw
      case rel => exact ⟨k + 1, by go_num, by omega, (.of (by repeat (first | (with_reducible exact Ext.refl _) | (with_reducible refine Ext.up ?_ _) | (with_reducible refine Ext.alloc ?_ _) | (with_reducible refine Ext.drew ?_) | (with_reducible refine Ext.setRow ?_ (by first | exact LeS.le | exact LeS.add _ | (simp; done) | (simp; omega)) _) | (with_reducible refine Ext.setCell ?_ (by first | exact LeS.le | exact LeS.add _ | (simp; done) | (simp; omega)) _))))⟩
      case measure => simp [intOf]; omega
    · go_wp2_with fail
      go_ret
      exact ⟨rfl, z, rfl⟩
set_option maxRecDepth 100000 in
set_option maxHeartbeats 2000000 in
theorem markLayerS_any (lo : Nat) (ts : List TL) (v : Value) (m : Int) (w : World) (h : OY 66 64 lo w v ts) (hpw : PWY ts) (hm0 : 0 ≤ m) (hm1 : m + lyrW ts ≤ 900000000) (hn : ts.length ≤ 1000) :
    Calls Tryz.prog 20 #[v, .int .i64 m] w fun e w' => e = .returned (.int .i64 (mkYM m ts)) ∧ Chg w w' (MBY v ts) ∧ OY 66 64 lo w' v (mkYL m ts) := by
  obtain ⟨p, c, rfl, _, _⟩ := (h.1.sl TL.enc_length).openc
  have H := Lib.hid h; have Hpw := Lib.hid hpw
  clear h hpw
  go_enter Tryz.func20, Tryz.ntmps20
  go_wp2_with fail
  go_loopw [1, 5] (fun s1 s5 wr => ∃ (k : Nat), s5 = .int .i64 k ∧ s1 = .int .i64 (mkYM m (ts.take k)) ∧ k ≤ ts.length ∧ Chg w wr (MBY (.slice p ts.length c) ts) ∧ OY 66 64 lo wr (.slice p ts.length c) (mkYL m (ts.take k) ++ ts.drop k)) (fun _ s5 _ => ts.length - (intOf s5).toNat)
  case atStart => exact ⟨0, rfl, rfl, Nat.zero_le _, Chg.refl _ _, H.out⟩
  case round =>
    obtain ⟨k, rfl, rfl, hk, hch, hoe⟩ := hrel
    have hmq := mkYM_eq (ts.take k) m
    have hmt := lyrW_take ts k
    by_cases hlt : k < ts.length
    · obtain ⟨x, hxk⟩ := getElem?_some_of_lt hlt
      have hxm := List.mem_of_getElem? hxk
      have hL := mixY_at (m := m) hxk
      have hLl := mixY_len (m := m) hk
      have hnx := mkYM_snoc (m := m) hxk
      have hmq2 := mkYM_eq (ts.take (k + 1)) m
      have hmt2 := lyrW_take ts (k + 1)
      obtain ⟨g, c', hv⟩ : ∃ g c', Value.slice p ts.length c = .slice (some ⟨g, 0, none⟩) ts.length c' := by
        rcases hoe.1.2 with ⟨_, h0⟩ | ⟨g, cap, cur, hv, _⟩
        · rw [hLl] at h0; omega
        · exact ⟨g, cap, by rw [hv, hLl]⟩
      cases hv
      have Hnext := Lib.hid (mixY_next (m := m) hxk)
      generalize hmk : mkYM m (ts.take k) = mk at *
      have mk0 : 0 ≤ mk := by omega
      have mk1 : mk + 1 + 2 * (x.w.length : Int) ≤ 900000000 := by omega
      obtain ⟨LL, hLL⟩ : ∃ LL, LL = mkYL m (ts.take k) ++ ts.drop k := ⟨_, rfl⟩
      have Hget := Lib.hid (fun j y (hy : LL[j]? = some y) => mixY_get (m := m) hk (by rw [← hLL]; exact hy))
      rw [← hLL] at hoe hL hLl Hnext
      obtain ⟨x3, x4⟩ := hoe.2 x (List.mem_of_getElem? hL)
      obtain ⟨pb, cb, hvw, _, _⟩ := (x3.sl Ent.enc_length).openc
      have hrow : wr.ownsRow lo 66 2 (.slice (some ⟨g, 0, none⟩) ts.length c) ts.length (LL.flatMap TL.enc) := by have := hoe.1; rw [← hLl]; rw [← hLl] at this; exact this
      have d0 : wr.cell? ⟨g, k * 2, none⟩ = some (.int .i64 x.b) := (hrow.cellAt _ (by omega)).trans (flatMap_get TL.enc_length hL (j := 0) rfl)
      have d1 : wr.cell? ⟨g, k * 2 + 1, none⟩ = some x.vw := (hrow.cellAt _ (by omega)).trans (flatMap_get TL.enc_length hL (j := 1) rfl)
      have f0 := hrow.frozenAt (k * 2)
      have hLg : LtS g wr := LtS.of_some d0
      rw [hvw] at d1
      have hO1 := Own.setAt TL.enc_length hoe.1 (j := 0) (u := .int .i64 mk) (x' := mkY mk x) hL (by decide) rfl
      have Hoe := Lib.hid hoe; have Hch := Lib.hid hch; have HO1 := Lib.hid hO1; have HL := Lib.hid hL; have Hxk := Lib.hid hxk; have Hxm := Lib.hid hxm
      have X3 := Lib.hid x3; have X4 := Lib.hid x4; have Hnx := Lib.hid hnx
      have HLl := Lib.hid hLl
      clear hxk hxm hL hLl hnx hmq hmt hmq2 hmt2 hoe hch hO1 x3 x4 hrow hmk hLL
      go_wp2_with fail
      have vw1 := X3.out.ap (k * 2) (.int .i64 mk) X4.out
      rw [hvw] at vw1
      refine (markEntryS_any lo x.w (.slice pb x.w.length cb) (mk + 1) _ vw1 (by omega) (by omega) (by omega)).mono ?_; rintro e w2 ⟨rfl, hg2, om2⟩
      rw [← hvw] at hg2 om2
      have R2 : Own TL.enc 66 2 lo w2 (.slice (some ⟨g, 0, none⟩) ts.length c) (LL.set k (mkY mk x)) := Own.keep HO1.out hg2 X4.out.symm
      have hkl : k < LL.length := (List.getElem?_eq_some_iff.1 HL.out).1
      have HR2 := Lib.hid R2; have OM2 := Lib.hid om2; have HG2 := Lib.hid hg2
      clear R2 om2 hg2 vw1 d0 d1 f0 hLg
      go_wp2_with fail
      go_roundw
      case rel =>
        refine ⟨k + 1, by go_num, by rw [Hnx.out], by omega, (Hch.out.grown (grownBy_set wr ⟨g, k * 2, none⟩ (.int .i64 mk)) (fun b hb => by cases hb; exact .inl rfl)).grown HG2.out (fun b hb => .inr ⟨x, Hxm.out, hb⟩), ?_⟩
        rw [Hnext.out]
        refine ⟨HR2.out, fun y hy => ?_⟩
        obtain ⟨j, hj⟩ := List.getElem?_of_mem hy
        by_cases hjk : k = j
        · subst hjk
          rw [List.getElem?_set_self hkl] at hj
          cases hj
          exact ⟨OM2.out, X4.out⟩
        · rw [List.getElem?_set_ne hjk] at hj
          obtain ⟨y3, y4⟩ := Hoe.out.2 y (List.mem_of_getElem? hj)
          obtain ⟨t, ht, e1⟩ := Hget.out j y hj
          have a1 := pwy_at Hpw.out ht Hxk.out (Ne.symm hjk)
          rw [← e1] at a1
          exact ⟨Own.keep (y3.ap _ _ y4) HG2.out a1, y4⟩
      case measure => simp [intOf]; omega
    · obtain rfl : k = ts.length := by omega
      rw [List.take_length, List.drop_length, List.append_nil] at hoe
      have Hoe := Lib.hid hoe; have Hch := Lib.hid hch
      clear hmq hmt hoe hch
      go_wp2_with fail
      go_ret
      exact ⟨by first | rfl | (simp; done), Hch.out, Hoe.out⟩
set_option maxRecDepth 100000 in
set_option maxHeartbeats 2000000 in
theorem heldLayerS_marks (ts : List TL) (v : Value) (m : Int) (w : World) (h : SMY w v m ts) (hm0 : 0 ≤ m) (hm1 : m + lyrW ts ≤ 900000000) (hn : ts.length ≤ 1000) :
    Calls Tryz.prog 21 #[v, .int .i64 m] w fun e w' => e = .returned (.int .i64 (mkYM m ts)) ∧ w = w' := by
  obtain ⟨p, c, rfl, _, hc⟩ := h.1.open
  have Hd := Lib.hid h.2
  rw [mkYL_len]
  clear h
  go_enter Tryz.func21, Tryz.ntmps21
  go_wp2_with fail
  go_loop [1, 5] (fun s1 s5 => ∃ (k : Nat), s5 = .int .i64 k ∧ s1 = .int .i64 (mkYM m (ts.take k)) ∧ k ≤ ts.length) (fun _ s5 => ts.length - (intOf s5).toNat)
  case atStart => exact ⟨0, rfl, rfl, Nat.zero_le _⟩
  case round =>
    obtain ⟨k, rfl, rfl, hk⟩ := hrel
    have hmq := mkYM_eq (ts.take k) m
    have hmt := lyrW_take ts k
    by_cases hlt : k < ts.length
    · obtain ⟨x, hxk⟩ := getElem?_some_of_lt hlt
      have hat := mkYL_at ts m k x hxk
      have hnx := mkYM_snoc (m := m) hxk
      have hmq2 := mkYM_eq (ts.take (k + 1)) m
      have hmt2 := lyrW_take ts (k + 1)
      obtain ⟨b, off, rfl, hb, hcc⟩ := hc k _ hat
      generalize hmk : mkYM m (ts.take k) = mk at *
      have mk0 : 0 ≤ mk := by omega
      have mk1 : mk + 1 + 2 * (x.w.length : Int) ≤ 900000000 := by omega
      have s2 : SL (RF Ent.enc) 2 w x.vw (marksEnt (mk + 1) x.w.length) := Hd.out _ (List.mem_of_getElem? hat)
      have c0 : w.cell? ⟨b, off + k * 2, none⟩ = some (.int .i64 mk) := hcc 0 _ rfl
      have c1 : w.cell? ⟨b, off + k * 2 + 1, none⟩ = some x.vw := hcc 1 _ rfl
      obtain ⟨pb, cb, hvw, _, _⟩ := s2.openc
      rw [marksEnt_length] at hvw
      rw [hvw] at c1 s2
      have S2 := Lib.hid s2; have Hnx := Lib.hid hnx
      clear hc hcc hat hxk hmq hmt hmq2 hmt2 hnx hmk s2 hvw
      go_wp2_with fail
      refine (heldEntryS_marks x.w.length (.slice pb x.w.length cb) (mk + 1) _ S2.out (by omega) (by omega) (by omega)).mono ?_; rintro e w' ⟨rfl, rfl⟩
      have q2 : ¬ (mk + 1 + 2 * (x.w.length : Int) < 0) := by omega
      go_wp2_with fail
      go_round
      case rel => exact ⟨k + 1, by go_num, by rw [Hnx.out], by omega⟩
      case measure => simp [intOf]; omega
    · obtain rfl : k = ts.length := by omega
      clear hmq hmt hc
      go_wp2_with fail
      go_ret
      exact ⟨by first | rfl | (simp; done) | (rw [List.take_length]), rfl⟩
end Go.Proofs.YteiemjebdhmnaaaGreat
namespace Go.Proofs.YteiemjebdhmnaaaGreat
open Go Go.RowKit Go.Proofs

theorem OY.keepHi {eT eE lo hi : Nat} {w w' : World} {v : Value} {ts : List TL} (h : OY eT eE lo w v ts) (hK : Keep hi w w') (hl : hi ≤ lo) : OY eT eE lo w' v ts := ⟨Own.keepHi h.1 hK hl, fun x hx => ⟨Own.keepHi (h.2 x hx).1 hK hl, (h.2 x hx).2⟩⟩
theorem lyrsR_small (t : Tree) : (lyrsR t).length ≤ 14 ∧ ∀ x ∈ lyrsR t, x.w.length ≤ 32 := by
  unfold lyrsR
  split
  · rename_i h
    have h14 := (Tree.lens h).2.2
    refine ⟨by rw [lyrsTo_len]; exact h14, fun x hx => ?_⟩
    obtain ⟨i, hi⟩ := List.getElem?_of_mem hx
    have hil := (List.getElem?_eq_some_iff.1 hi).1
    rw [lyrsTo_len] at hil
    rw [lyrsTo_get t _ i hil] at hi
    cases hi
    obtain ⟨y, hy⟩ := getElem?_some_of_lt (l := t.bs) (k := i) hil
    rw [lyrOf_eq hy]
    exact entsOk_len (lyr_ents h hy)
  · simp
theorem lyr_acc {t : Tree} {ts : List TL} (h : ts.map TL.core = lyrsR t) : ts.length ≤ 14 ∧ lyrW ts ≤ 28014 := by
  have hs := lyrsR_small t
  rw [← h, List.length_map] at hs
  have := lyrW_le ts fun x hx => by have : x.w.length ≤ 32 := hs.2 x.core (List.mem_map.2 ⟨x, hx, rfl⟩); omega
  exact ⟨hs.1, by omega⟩
set_option maxHeartbeats 2000000 in
set_option maxRecDepth 100000 in
theorem FnExactBranchLayers_any (t : Tree) (v0 v1 v2 : Value) (w : World) (h : ST w v0 v1 v2 t) :
    Calls Tryz.prog 4 #[.agg #[v0, v1, v2]] w fun e w' => e = .returned (.bool true) ∧ Up w w' := by
  have H := Lib.hid h
  obtain ⟨h0, h1, h2⟩ := h
  obtain ⟨p0, c0, rfl, _, _⟩ := h0.openc
  obtain ⟨p1, c1, rfl, _, _⟩ := h1.openc
  obtain ⟨p2, c2, rfl, _, _⟩ := h2.openc
  clear h0 h1 h2
  go_enter Tryz.func4, Tryz.ntmps4
  go_wp2_with fail
  refine (szBlockTree_any t _ _ _ _ _ (H.out.up (by repeat (first | (with_reducible exact Ext.refl _) | (with_reducible refine Ext.up ?_ _) | (with_reducible refine Ext.alloc ?_ _) | (with_reducible refine Ext.drew ?_) | (with_reducible refine Ext.setRow ?_ (by first | exact LeS.le | exact LeS.add _ | (simp; done) | (simp; omega)) _) | (with_reducible refine Ext.setCell ?_ (by first | exact LeS.le | exact LeS.add _ | (simp; done) | (simp; omega)) _)))) (by omega) (by omega)).mono ?_; rintro e w' ⟨m, rfl, hm, ⟨z0, rfl⟩⟩
  rcases hm with hm | ⟨hm0, hm⟩
  · go_wp2_with fail
    go_ret
    exact ⟨rfl, (.of (by repeat (first | (with_reducible exact Ext.refl _) | (with_reducible refine Ext.up ?_ _) | (with_reducible refine Ext.alloc ?_ _) | (with_reducible refine Ext.drew ?_) | (with_reducible refine Ext.setRow ?_ (by first | exact LeS.le | exact LeS.add _ | (simp; done) | (simp; omega)) _) | (with_reducible refine Ext.setCell ?_ (by first | exact LeS.le | exact LeS.add _ | (simp; done) | (simp; omega)) _))))⟩
  have n0 : t.base.length ≤ 1048576 := by omega
  have n1 : t.bs.length ≤ 1048576 := by omega
  have n2 : totA t.bs ≤ 1048576 := by omega
  have n3 : t.pr.length ≤ 1048576 := by omega
  clear hm
  go_wp2_with fail
  refine (toBlockTree_any t _ _ _ _ (H.out.up (by repeat (first | (with_reducible exact Ext.refl _) | (with_reducible refine Ext.up ?_ _) | (with_reducible refine Ext.alloc ?_ _) | (with_reducible refine Ext.drew ?_) | (with_reducible refine Ext.setRow ?_ (by first | exact LeS.le | exact LeS.add _ | (simp; done) | (simp; omega)) _) | (with_reducible refine Ext.setCell ?_ (by first | exact LeS.le | exact LeS.add _ | (simp; done) | (simp; omega)) _)))) n0 n1 n2 n3).mono ?_; rintro e w' ⟨a0, a1, a2, bs1, rfl, ⟨z1, rfl⟩, hb1, o1⟩
  have S1 := Lib.hid (o1.st' hb1); clear o1 hb1
  go_wp2_with fail
  refine (sBranchLayers_any t _ _ _ _ (S1.out.up (by repeat (first | (with_reducible exact Ext.refl _) | (with_reducible refine Ext.up ?_ _) | (with_reducible refine Ext.alloc ?_ _) | (with_reducible refine Ext.drew ?_) | (with_reducible refine Ext.setRow ?_ (by first | exact LeS.le | exact LeS.add _ | (simp; done) | (simp; omega)) _) | (with_reducible refine Ext.setCell ?_ (by first | exact LeS.le | exact LeS.add _ | (simp; done) | (simp; omega)) _))))).mono ?_; rintro e w' ⟨yw, rfl, ⟨z2, rfl⟩, ow⟩
  have OW := Lib.hid ow; clear ow
  go_wp2_with fail
  refine (toBlockTree_any t _ _ _ _ (H.out.up (by repeat (first | (with_reducible exact Ext.refl _) | (with_reducible refine Ext.up ?_ _) | (with_reducible refine Ext.alloc ?_ _) | (with_reducible refine Ext.drew ?_) | (with_reducible refine Ext.setRow ?_ (by first | exact LeS.le | exact LeS.add _ | (simp; done) | (simp; omega)) _) | (with_reducible refine Ext.setCell ?_ (by first | exact LeS.le | exact LeS.add _ | (simp; done) | (simp; omega)) _)))) n0 n1 n2 n3).mono ?_; rintro e w' ⟨b0, b1, b2, bs2, rfl, ⟨z3, rfl⟩, hb2, o2⟩
  obtain ⟨q0, d0, rfl, _, _⟩ := (o2.st' hb2).base.openc
  obtain ⟨q1, d1, rfl, _, _⟩ := (o2.st' hb2).bs.openc
  obtain ⟨q2, d2, rfl, _, _⟩ := (o2.st' hb2).pr.openc
  have S2 := Lib.hid (o2.st' hb2); have T2 := Lib.hid o2; clear o2
  go_wp2_with fail
  refine (iBranchLayers_any t _ _ _ _ (S2.out.up (by repeat (first | (with_reducible exact Ext.refl _) | (with_reducible refine Ext.up ?_ _) | (with_reducible refine Ext.alloc ?_ _) | (with_reducible refine Ext.drew ?_) | (with_reducible refine Ext.setRow ?_ (by first | exact LeS.le | exact LeS.add _ | (simp; done) | (simp; omega)) _) | (with_reducible refine Ext.setCell ?_ (by first | exact LeS.le | exact LeS.add _ | (simp; done) | (simp; omega)) _))))).mono ?_; rintro e w' ⟨yg, ts, rfl, ⟨z4, rfl⟩, og, hpw, hts⟩
  obtain ⟨hn14, hW⟩ := lyr_acc hts
  have hM := mkYM_eq ts 1
  have hM1 : ¬ mkYM 1 ts < 0 := by omega
  have sg := og.sy
  rw [hts] at sg
  have SG := Lib.hid sg; have OG := Lib.hid og; have HPW := Lib.hid hpw; have HTS := Lib.hid hts
  clear og sg hpw hts hM
  go_wp2_with fail
  refine (eqLayerS_same (lyrsR t) _ _ _ (SG.out.up (by repeat (first | (with_reducible exact Ext.refl _) | (with_reducible refine Ext.up ?_ _) | (with_reducible refine Ext.alloc ?_ _) | (with_reducible refine Ext.drew ?_) | (with_reducible refine Ext.setRow ?_ (by first | exact LeS.le | exact LeS.add _ | (simp; done) | (simp; omega)) _) | (with_reducible refine Ext.setCell ?_ (by first | exact LeS.le | exact LeS.add _ | (simp; done) | (simp; omega)) _)))) (OW.out.up (by repeat (first | (with_reducible exact Ext.refl _) | (with_reducible refine Ext.up ?_ _) | (with_reducible refine Ext.alloc ?_ _) | (with_reducible refine Ext.drew ?_) | (with_reducible refine Ext.setRow ?_ (by first | exact LeS.le | exact LeS.add _ | (simp; done) | (simp; omega)) _) | (with_reducible refine Ext.setCell ?_ (by first | exact LeS.le | exact LeS.add _ | (simp; done) | (simp; omega)) _))))).mono ?_; rintro e w' ⟨rfl, ⟨z5, rfl⟩⟩
  go_wp2_with fail
  (refine wp_named ?_; intro W0 hW0; have hI := LtS.via hW0; go_region_held3 (fun w' => (∀ n i, ∀ [LtS n W0], w'.cell? ⟨n, i, none⟩ = W0.cell? ⟨n, i, none⟩) ∧ Ext W0 w') (((try subst hW0); refine S_of_ext ?_; (repeat (first | exact Ext.refl _ | refine Ext.up ?_ _ | refine Ext.alloc ?_ _ | refine Ext.drew ?_ | refine Ext.setRow ?_ (by first | (dsimp only; omega) | exact LeS.le | exact LeS.add _ | (simp; done) | (simp; omega)) _ | refine Ext.setCell ?_ (by first | (dsimp only; omega) | exact LeS.le | exact LeS.add _ | (simp; done) | (simp; omega)) _)); done)) (first | (go_at_call 16; refine (toBlockTree_any t _ _ _ _ (H.out.up (by (try subst hW0); repeat (first | exact Ext.refl _ | refine Ext.up ?_ _ | refine Ext.alloc ?_ _ | refine Ext.drew ?_ | refine Ext.setRow ?_ (by first | (dsimp only; omega) | exact LeS.le | exact LeS.add _ | (simp; done) | (simp; omega)) _ | refine Ext.setCell ?_ (by first | (dsimp only; omega) | exact LeS.le | exact LeS.add _ | (simp; done) | (simp; omega)) _))) n0 n1 n2 n3).mono ?_; rintro e w' ⟨g0, g1, g2, bs3, rfl, ⟨z6, rfl⟩, hb3, o3⟩; have S3 := (o3.st' hb3); clear o3 hb3) | (go_at_call 18; refine (eqBlockTree_same t _ _ _ _ _ _ _ (S2.out.up (by (try subst hW0); repeat (first | exact Ext.refl _ | refine Ext.up ?_ _ | refine Ext.alloc ?_ _ | refine Ext.drew ?_ | refine Ext.setRow ?_ (by first | (dsimp only; omega) | exact LeS.le | exact LeS.add _ | (simp; done) | (simp; omega)) _ | refine Ext.setCell ?_ (by first | (dsimp only; omega) | exact LeS.le | exact LeS.add _ | (simp; done) | (simp; omega)) _))) S3).mono ?_; rintro e w' ⟨rfl, ⟨z7, rfl⟩⟩)))
  subst hW0
  clear S3 hI
  have E7 : Ext z4.val z7.val := (by repeat (first | (with_reducible exact Ext.refl _) | (with_reducible refine Ext.up ?_ _) | (with_reducible refine Ext.alloc ?_ _) | (with_reducible refine Ext.drew ?_) | (with_reducible refine Ext.setRow ?_ (by first | exact LeS.le | exact LeS.add _ | (simp; done) | (simp; omega)) _) | (with_reducible refine Ext.setCell ?_ (by first | exact LeS.le | exact LeS.add _ | (simp; done) | (simp; omega)) _)))
  go_wp2_with fail
  refine (markBlockTree_weak _ _ z2.val _ _ _ _ _ _ _ 1 (T2.out.up (by repeat (first | (with_reducible exact Ext.refl _) | (with_reducible refine Ext.up ?_ _) | (with_reducible refine Ext.alloc ?_ _) | (with_reducible refine Ext.drew ?_) | (with_reducible refine Ext.setRow ?_ (by first | exact LeS.le | exact LeS.add _ | (simp; done) | (simp; omega)) _) | (with_reducible refine Ext.setCell ?_ (by first | exact LeS.le | exact LeS.add _ | (simp; done) | (simp; omega)) _)))) (by repeat (first | (with_reducible exact Ext.refl _) | (with_reducible refine Ext.up ?_ _) | (with_reducible refine Ext.alloc ?_ _) | (with_reducible refine Ext.drew ?_) | (with_reducible refine Ext.setRow ?_ (by first | exact LeS.le | exact LeS.add _ | (simp; done) | (simp; omega)) _) | (with_reducible refine Ext.setCell ?_ (by first | exact LeS.le | exact LeS.add _ | (simp; done) | (simp; omega)) _))) LeS.le (by omega) (by omega) n0 (by rw [← List.length_map (f := TB.core), hb2]; exact n1) (by rw [hb2]; exact n2) n3 LeS.le).mono ?_; rintro e w8 ⟨k8, rfl, hk8, hE8, hK8⟩
  have G8 := Lib.hid (OY.keepHi (OG.out.up (by repeat (first | (with_reducible exact Ext.refl _) | (with_reducible refine Ext.up ?_ _) | (with_reducible refine Ext.alloc ?_ _) | (with_reducible refine Ext.drew ?_) | (with_reducible refine Ext.setRow ?_ (by first | exact LeS.le | exact LeS.add _ | (simp; done) | (simp; omega)) _) | (with_reducible refine Ext.setCell ?_ (by first | exact LeS.le | exact LeS.add _ | (simp; done) | (simp; omega)) _)))) hK8 LeS.le)
  have SG8 := Lib.hid (show SY w8 yg (lyrsR t) from by have := G8.out.sy; rw [HTS.out] at this; exact this)
  clear hK8 E7
  obtain ⟨z8, rfl⟩ := Up.of hE8
  clear hE8
  go_wp2_with fail
  refine (eqLayerS_same (lyrsR t) _ _ _ (SG8.out.up (by repeat (first | (with_reducible exact Ext.refl _) | (with_reducible refine Ext.up ?_ _) | (with_reducible refine Ext.alloc ?_ _) | (with_reducible refine Ext.drew ?_) | (with_reducible refine Ext.setRow ?_ (by first | exact LeS.le | exact LeS.add _ | (simp; done) | (simp; omega)) _) | (with_reducible refine Ext.setCell ?_ (by first | exact LeS.le | exact LeS.add _ | (simp; done) | (simp; omega)) _)))) (OW.out.up (by repeat (first | (with_reducible exact Ext.refl _) | (with_reducible refine Ext.up ?_ _) | (with_reducible refine Ext.alloc ?_ _) | (with_reducible refine Ext.drew ?_) | (with_reducible refine Ext.setRow ?_ (by first | exact LeS.le | exact LeS.add _ | (simp; done) | (simp; omega)) _) | (with_reducible refine Ext.setCell ?_ (by first | exact LeS.le | exact LeS.add _ | (simp; done) | (simp; omega)) _))))).mono ?_; rintro e w' ⟨rfl, ⟨z9, rfl⟩⟩
  go_wp2_with fail
  refine (markLayerS_any _ ts yg 1 _ (G8.out.up (by repeat (first | (with_reducible exact Ext.refl _) | (with_reducible refine Ext.up ?_ _) | (with_reducible refine Ext.alloc ?_ _) | (with_reducible refine Ext.drew ?_) | (with_reducible refine Ext.setRow ?_ (by first | exact LeS.le | exact LeS.add _ | (simp; done) | (simp; omega)) _) | (with_reducible refine Ext.setCell ?_ (by first | exact LeS.le | exact LeS.add _ | (simp; done) | (simp; omega)) _)))) HPW.out (by omega) (by omega) (by omega)).mono ?_; rintro e w10 ⟨rfl, hc10, oe10⟩
  have E10 : Ext z2.val w10 := Chg.ext (show Ext z2.val z9.val from (by repeat (first | (with_reducible exact Ext.refl _) | (with_reducible refine Ext.up ?_ _) | (with_reducible refine Ext.alloc ?_ _) | (with_reducible refine Ext.drew ?_) | (with_reducible refine Ext.setRow ?_ (by first | exact LeS.le | exact LeS.add _ | (simp; done) | (simp; omega)) _) | (with_reducible refine Ext.setCell ?_ (by first | exact LeS.le | exact LeS.add _ | (simp; done) | (simp; omega)) _)))) hc10 (fun b hb => Nat.le_trans LeS.le (OY.mb_lo G8.out hb))
  have OM := Lib.hid oe10.sm
  clear hc10 oe10
  obtain ⟨z10, rfl⟩ := Up.of E10
  clear E10
  go_wp2_with fail
  refine (heldLayerS_marks ts yg 1 _ (OM.out.up (by repeat (first | (with_reducible exact Ext.refl _) | (with_reducible refine Ext.up ?_ _) | (with_reducible refine Ext.alloc ?_ _) | (with_reducible refine Ext.drew ?_) | (with_reducible refine Ext.setRow ?_ (by first | exact LeS.le | exact LeS.add _ | (simp; done) | (simp; omega)) _) | (with_reducible refine Ext.setCell ?_ (by first | exact LeS.le | exact LeS.add _ | (simp; done) | (simp; omega)) _)))) (by omega) (by omega) (by omega)).mono ?_; rintro e w' ⟨rfl, rfl⟩
  go_wp2_with fail
  refine (toBlockTree_any t _ _ _ _ (H.out.up (by repeat (first | (with_reducible exact Ext.refl _) | (with_reducible refine Ext.up ?_ _) | (with_reducible refine Ext.alloc ?_ _) | (with_reducible refine Ext.drew ?_) | (with_reducible refine Ext.setRow ?_ (by first | exact LeS.le | exact LeS.add _ | (simp; done) | (simp; omega)) _) | (with_reducible refine Ext.setCell ?_ (by first | exact LeS.le | exact LeS.add _ | (simp; done) | (simp; omega)) _)))) n0 n1 n2 n3).mono ?_; rintro e w' ⟨b0, b1, b2, bs4, rfl, ⟨z11, rfl⟩, hb4, o4⟩
  have S4 := Lib.hid (o4.st' hb4); clear o4 hb4
  go_wp2_with fail
  refine (iBranchLayers_any t _ _ _ _ (S4.out.up (by repeat (first | (with_reducible exact Ext.refl _) | (with_reducible refine Ext.up ?_ _) | (with_reducible refine Ext.alloc ?_ _) | (with_reducible refine Ext.drew ?_) | (with_reducible refine Ext.setRow ?_ (by first | exact LeS.le | exact LeS.add _ | (simp; done) | (simp; omega)) _) | (with_reducible refine Ext.setCell ?_ (by first | exact LeS.le | exact LeS.add _ | (simp; done) | (simp; omega)) _))))).mono ?_; rintro e w' ⟨yh, tsh, rfl, ⟨z12, rfl⟩, oh, _, hth⟩
  have sh := oh.sy
  rw [hth] at sh
  have SH := Lib.hid sh; clear oh sh hth
  go_wp2_with fail
  refine (eqLayerS_same (lyrsR t) _ _ _ (SH.out.up (by repeat (first | (with_reducible exact Ext.refl _) | (with_reducible refine Ext.up ?_ _) | (with_reducible refine Ext.alloc ?_ _) | (with_reducible refine Ext.drew ?_) | (with_reducible refine Ext.setRow ?_ (by first | exact LeS.le | exact LeS.add _ | (simp; done) | (simp; omega)) _) | (with_reducible refine Ext.setCell ?_ (by first | exact LeS.le | exact LeS.add _ | (simp; done) | (simp; omega)) _)))) (OW.out.up (by repeat (first | (with_reducible exact Ext.refl _) | (with_reducible refine Ext.up ?_ _) | (with_reducible refine Ext.alloc ?_ _) | (with_reducible refine Ext.drew ?_) | (with_reducible refine Ext.setRow ?_ (by first | exact LeS.le | exact LeS.add _ | (simp; done) | (simp; omega)) _) | (with_reducible refine Ext.setCell ?_ (by first | exact LeS.le | exact LeS.add _ | (simp; done) | (simp; omega)) _))))).mono ?_; rintro e w' ⟨rfl, ⟨z13, rfl⟩⟩
  go_wp2_with fail
  refine (heldLayerS_marks ts yg 1 _ (OM.out.up (by repeat (first | (with_reducible exact Ext.refl _) | (with_reducible refine Ext.up ?_ _) | (with_reducible refine Ext.alloc ?_ _) | (with_reducible refine Ext.drew ?_) | (with_reducible refine Ext.setRow ?_ (by first | exact LeS.le | exact LeS.add _ | (simp; done) | (simp; omega)) _) | (with_reducible refine Ext.setCell ?_ (by first | exact LeS.le | exact LeS.add _ | (simp; done) | (simp; omega)) _)))) (by omega) (by omega) (by omega)).mono ?_; rintro e w' ⟨rfl, rfl⟩
  go_wp2_with fail
  go_ret
  exact ⟨rfl, (.of (by repeat (first | (with_reducible exact Ext.refl _) | (with_reducible refine Ext.up ?_ _) | (with_reducible refine Ext.alloc ?_ _) | (with_reducible refine Ext.drew ?_) | (with_reducible refine Ext.setRow ?_ (by first | exact LeS.le | exact LeS.add _ | (simp; done) | (simp; omega)) _) | (with_reducible refine Ext.setCell ?_ (by first | exact LeS.le | exact LeS.add _ | (simp; done) | (simp; omega)) _))))⟩
end Go.Proofs.YteiemjebdhmnaaaGreat
