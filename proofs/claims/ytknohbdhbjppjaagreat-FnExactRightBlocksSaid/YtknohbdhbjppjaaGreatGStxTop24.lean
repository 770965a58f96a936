/- Walks: right blocks; the law FnExactBlockRight. Walks: comparisons and marks of slices of bools (the laws' helpers). -/
import Derived.Test.YtknohbdhbjppjaaGreatGStxTop18
import Derived.Test.YtknohbdhbjppjaaGreatGStxTop22
import Derived.Test.YtknohbdhbjppjaaGreatGStxTop23
import Derived.Test.YtknohbdhbjppjaaGreatGStxTop02
import Derived.Test.YtknohbdhbjppjaaGreatGStxTop01
set_option linter.unusedSimpArgs false
set_option linter.unusedVariables false
namespace Go.Proofs.YtknohbdhbjppjaaGreat
open Go Go.RowKit Go.Proofs

def blkRight (b : Blk) (l : List Actn) (s : List Ent) : Bool := b.okL l && (entsOk 1 s && (decide (b.rt = rootOf (storeOf (runAll (valsOf s) l).1)) && decide (b.ef = effsSum (runAll (valsOf s) l).2)))
theorem blkRight_no1 {b : Blk} {l : List Actn} {s : List Ent} (h : b.okL l = false) : blkRight b l s = false := by unfold blkRight; rw [h]; rfl
theorem blkRight_no2 {b : Blk} {l : List Actn} {s : List Ent} (h : b.okL l = true) (h2 : entsOk 1 s = false) : blkRight b l s = false := by unfold blkRight; rw [h, h2]; rfl
theorem blkRight_yes {b : Blk} {l : List Actn} {s : List Ent} (h : b.okL l = true) (h2 : entsOk 1 s = true) : blkRight b l s = (decide (b.rt = rootOf (storeOf (runAll (valsOf s) l).1)) && decide (b.ef = effsSum (runAll (valsOf s) l).2)) := by unfold blkRight; rw [h, h2]; rfl
theorem okL_acts {b : Blk} {l : List Actn} (h : b.okL l = true) : actsOk l = true := by
  simp only [Blk.okL, Bool.and_eq_true] at h
  simp_all
set_option maxRecDepth 100000 in
set_option maxHeartbeats 2000000 in
theorem iRunSerial_yes (s : List Ent) (l : List Actn) (v vl : Value) (w : World) (h : SL (RF Ent.enc) 2 w v s) (hl : SL (RF Actn.enc) 4 w vl l) (hok : entsOk 1 s = true) (hlk : actsOk l = true) :
    Calls Tryz.prog 76 #[v, vl] w fun e w' => ∃ v1 v2 ts, e = .returned (.tuple #[v1, v2]) ∧ Up w w' ∧ Own Ent.enc 69 2 w.heap.size w' v1 (storeOf (runAll (valsOf s) l).1) ∧
      OE 78 69 w.heap.size w' v2 ts ∧ ts.map TE.core = (runAll (valsOf s) l).2 := by
  have H := Lib.hid h; have HL := Lib.hid hl
  obtain ⟨p, c, rfl, _, _⟩ := h.openc
  obtain ⟨p3, c3, rfl, _, _⟩ := hl.openc
  have kv := fun w (h : SL (RF Ent.enc) 2 w (.slice p s.length c) s) => iStoreValid_any s _ w h
  simp only [hok] at kv
  have kw := fun w (h : SL (RF Actn.enc) 4 w (.slice p3 l.length c3) l) => iActionsValid_any l _ w h
  simp only [hlk] at kw
  have hvi : valsIn (valsOf s) := valsOf_in (entsOk_least (by decide) hok)
  have kr := fun w h => runAll_any (valsOf s) l (.slice p3 l.length c3) w h (valsOf_length s) hvi (fun x hx => by obtain ⟨i, hi⟩ := List.getElem?_of_mem hx; exact actsOk_at hlk hi) (by have := actsOk_len hlk; omega)
  have hRl : (runAll (valsOf s) l).1.length = 32 := runStep_len (valsOf_length s)
  have Hok := Lib.hid hok
  have tok : True := trivial
  clear h hl hok hlk hvi
  generalize runAll (valsOf s) l = R at *
  go_enter Tryz.func76, Tryz.ntmps76
  go_wp2_with (first | (go_at_call 58; refine (kv _ (H.out.up (by repeat (first | (with_reducible exact Ext.refl _) | (with_reducible refine Ext.up ?_ _) | (with_reducible refine Ext.alloc ?_ _) | (with_reducible refine Ext.drew ?_) | (with_reducible refine Ext.setRow ?_ (by first | exact LeS.le | exact LeS.add _ | (simp; done) | (simp; omega)) _) | (with_reducible refine Ext.setCell ?_ (by first | exact LeS.le | exact LeS.add _ | (simp; done) | (simp; omega)) _))))).mono ?_; rintro e w' ⟨rfl, z1, rfl⟩) | (go_at_call 101; refine (kw _ (HL.out.up (by repeat (first | (with_reducible exact Ext.refl _) | (with_reducible refine Ext.up ?_ _) | (with_reducible refine Ext.alloc ?_ _) | (with_reducible refine Ext.drew ?_) | (with_reducible refine Ext.setRow ?_ (by first | exact LeS.le | exact LeS.add _ | (simp; done) | (simp; omega)) _) | (with_reducible refine Ext.setCell ?_ (by first | exact LeS.le | exact LeS.add _ | (simp; done) | (simp; omega)) _))))).mono ?_; rintro e w' ⟨rfl, z2, rfl⟩) | (go_at_call 64; refine (valuesOf_any 1 s _ _ (H.out.up (by repeat (first | (with_reducible exact Ext.refl _) | (with_reducible refine Ext.up ?_ _) | (with_reducible refine Ext.alloc ?_ _) | (with_reducible refine Ext.drew ?_) | (with_reducible refine Ext.setRow ?_ (by first | exact LeS.le | exact LeS.add _ | (simp; done) | (simp; omega)) _) | (with_reducible refine Ext.setCell ?_ (by first | exact LeS.le | exact LeS.add _ | (simp; done) | (simp; omega)) _)))) Hok.out).mono ?_; rintro e w' ⟨rfl, z3, rfl⟩) | ((go_at_call 48; refine (kr _ (HL.out.up (by repeat (first | (with_reducible exact Ext.refl _) | (with_reducible refine Ext.up ?_ _) | (with_reducible refine Ext.alloc ?_ _) | (with_reducible refine Ext.drew ?_) | (with_reducible refine Ext.setRow ?_ (by first | exact LeS.le | exact LeS.add _ | (simp; done) | (simp; omega)) _) | (with_reducible refine Ext.setCell ?_ (by first | exact LeS.le | exact LeS.add _ | (simp; done) | (simp; omega)) _))))).mono ?_; rintro e w' ⟨v2, ts, rfl, ⟨z4, rfl⟩, oe, hts⟩); have OE4 := Lib.hid oe; have HTS := Lib.hid hts; clear oe hts) | (have _t := tok; refine wpList_store_new rfl _ _ _ rfl rfl rfl rfl (by rw [hRl]; exact Tryz.sVals) (by rw [hRl]; rfl) ?_; intro z5 r5; clear _t tok; have R5 := Lib.hid r5; clear r5) | (refine wpList_load_row rfl _ _ rfl _ rfl _ _ _ _ R5.out.eq Tryz.underlying64 rfl (by rw [vA_size, hRl]; exact Tryz.sVals) ?_) | (go_at_call 36; refine (store_any _ _ hRl).mono ?_; rintro e w' ⟨v', rfl, ⟨z6, rfl⟩, ho⟩; have HO := Lib.hid ho; clear ho))
  refine bodyPost_ret (v := .tuple #[v', v2]) (by simp [results, Tryz.results76, go_sem]) rfl ?_
  exact ⟨_, _, ts, rfl, (.of (by repeat (first | (with_reducible exact Ext.refl _) | (with_reducible refine Ext.up ?_ _) | (with_reducible refine Ext.alloc ?_ _) | (with_reducible refine Ext.drew ?_) | (with_reducible refine Ext.setRow ?_ (by first | exact LeS.le | exact LeS.add _ | (simp; done) | (simp; omega)) _) | (with_reducible refine Ext.setCell ?_ (by first | exact LeS.le | exact LeS.add _ | (simp; done) | (simp; omega)) _)))), HO.out.lo LeS.le, (OE4.out.up (by repeat (first | (with_reducible exact Ext.refl _) | (with_reducible refine Ext.up ?_ _) | (with_reducible refine Ext.alloc ?_ _) | (with_reducible refine Ext.drew ?_) | (with_reducible refine Ext.setRow ?_ (by first | exact LeS.le | exact LeS.add _ | (simp; done) | (simp; omega)) _) | (with_reducible refine Ext.setCell ?_ (by first | exact LeS.le | exact LeS.add _ | (simp; done) | (simp; omega)) _)))).lo LeS.le, HTS.out⟩
set_option maxRecDepth 100000 in
set_option maxHeartbeats 2000000 in
theorem iBlockRight_any (b : Blk) (l : List Actn) (s : List Ent) (vl v : Value) (w : World) (hl : SL (RF Actn.enc) 4 w vl l) (h : SL (RF Ent.enc) 2 w v s) :
    Calls Tryz.prog 44 #[.agg #[.int .i64 b.bf, .int .i64 b.ht, .int .i64 b.vw, vl, .int .i64 b.rt, .int .i64 b.ef], v] w fun e w' => e = .returned (.bool (blkRight b l s)) ∧ Up w w' := by
  have H := Lib.hid h; have HL := Lib.hid hl
  obtain ⟨p, c, rfl, _, _⟩ := h.openc
  obtain ⟨p3, c3, rfl, _, _⟩ := hl.openc
  have kv := fun w (h : SL (RF Ent.enc) 2 w (.slice p s.length c) s) => iStoreValid_any s _ w h
  have kb := fun w (h : SL (RF Actn.enc) 4 w (.slice p3 l.length c3) l) => iBlockValid_any b l _ w h
  clear h hl
  rcases guards2 (b.okL l) (entsOk 1 s) with h1 | ⟨h1, h2⟩ | ⟨h1, h2⟩
  · rw [blkRight_no1 h1]
    simp only [h1] at kb
    clear h1
    go_enter Tryz.func44, Tryz.ntmps44
    go_wp2_with (first | (go_at_call 75; refine (kb _ (HL.out.up (by repeat (first | (with_reducible exact Ext.refl _) | (with_reducible refine Ext.up ?_ _) | (with_reducible refine Ext.alloc ?_ _) | (with_reducible refine Ext.drew ?_) | (with_reducible refine Ext.setRow ?_ (by first | exact LeS.le | exact LeS.add _ | (simp; done) | (simp; omega)) _) | (with_reducible refine Ext.setCell ?_ (by first | exact LeS.le | exact LeS.add _ | (simp; done) | (simp; omega)) _))))).mono ?_; rintro e w' ⟨rfl, z1, rfl⟩) | (go_at_call 58; refine (kv _ (H.out.up (by repeat (first | (with_reducible exact Ext.refl _) | (with_reducible refine Ext.up ?_ _) | (with_reducible refine Ext.alloc ?_ _) | (with_reducible refine Ext.drew ?_) | (with_reducible refine Ext.setRow ?_ (by first | exact LeS.le | exact LeS.add _ | (simp; done) | (simp; omega)) _) | (with_reducible refine Ext.setCell ?_ (by first | exact LeS.le | exact LeS.add _ | (simp; done) | (simp; omega)) _))))).mono ?_; rintro e w' ⟨rfl, z2, rfl⟩))
    go_ret
    exact ⟨rfl, (.of (by repeat (first | (with_reducible exact Ext.refl _) | (with_reducible refine Ext.up ?_ _) | (with_reducible refine Ext.alloc ?_ _) | (with_reducible refine Ext.drew ?_) | (with_reducible refine Ext.setRow ?_ (by first | exact LeS.le | exact LeS.add _ | (simp; done) | (simp; omega)) _) | (with_reducible refine Ext.setCell ?_ (by first | exact LeS.le | exact LeS.add _ | (simp; done) | (simp; omega)) _))))⟩
  · rw [blkRight_no2 h1 h2]
    simp only [h1] at kb
    simp only [h2] at kv
    clear h1 h2
    go_enter Tryz.func44, Tryz.ntmps44
    go_wp2_with (first | (go_at_call 75; refine (kb _ (HL.out.up (by repeat (first | (with_reducible exact Ext.refl _) | (with_reducible refine Ext.up ?_ _) | (with_reducible refine Ext.alloc ?_ _) | (with_reducible refine Ext.drew ?_) | (with_reducible refine Ext.setRow ?_ (by first | exact LeS.le | exact LeS.add _ | (simp; done) | (simp; omega)) _) | (with_reducible refine Ext.setCell ?_ (by first | exact LeS.le | exact LeS.add _ | (simp; done) | (simp; omega)) _))))).mono ?_; rintro e w' ⟨rfl, z1, rfl⟩) | (go_at_call 58; refine (kv _ (H.out.up (by repeat (first | (with_reducible exact Ext.refl _) | (with_reducible refine Ext.up ?_ _) | (with_reducible refine Ext.alloc ?_ _) | (with_reducible refine Ext.drew ?_) | (with_reducible refine Ext.setRow ?_ (by first | exact LeS.le | exact LeS.add _ | (simp; done) | (simp; omega)) _) | (with_reducible refine Ext.setCell ?_ (by first | exact LeS.le | exact LeS.add _ | (simp; done) | (simp; omega)) _))))).mono ?_; rintro e w' ⟨rfl, z2, rfl⟩))
    go_ret
    exact ⟨rfl, (.of (by repeat (first | (with_reducible exact Ext.refl _) | (with_reducible refine Ext.up ?_ _) | (with_reducible refine Ext.alloc ?_ _) | (with_reducible refine Ext.drew ?_) | (with_reducible refine Ext.setRow ?_ (by first | exact LeS.le | exact LeS.add _ | (simp; done) | (simp; omega)) _) | (with_reducible refine Ext.setCell ?_ (by first | exact LeS.le | exact LeS.add _ | (simp; done) | (simp; omega)) _))))⟩
  · rw [blkRight_yes h1 h2]
    have kr := fun w h h' => iRunSerial_yes s l (.slice p s.length c) (.slice p3 l.length c3) w h h' h2 (okL_acts h1)
    simp only [h1] at kb
    simp only [h2] at kv
    have hsm := Lib.hid (runAll_small (valsOf s) l)
    clear h1 h2
    generalize runAll (valsOf s) l = R at *
    have kt := fun v w h => iRootOf_any (storeOf R.1) v w h
    have ke := fun v w h => iEffectsSum_any R.2 v w h hsm.out
    generalize storeOf R.1 = S at *
    generalize rootOf S = rt at *
    generalize R.2 = es at *
    generalize effsSum es = ef at *
    have q1 : (b.rt == rt) = decide (b.rt = rt) := by rw [Bool.eq_iff_iff]; simp
    have q2 : (b.ef == ef) = decide (b.ef = ef) := by rw [Bool.eq_iff_iff]; simp
    by_cases h1 : b.rt = rt
    · have e1 : decide (b.rt = rt) = true := by simp [h1]
      rw [e1] at q1
      rw [e1, Bool.true_and, ← q2]
      have Q2 := Lib.hid q2
      clear e1 q2 h1
      rcases hb : (b.ef == ef) with _ | _
      all_goals
        clear Q2
        go_enter Tryz.func44, Tryz.ntmps44
        go_wp2_with (first | (go_at_call 75; refine (kb _ (HL.out.up (by repeat (first | (with_reducible exact Ext.refl _) | (with_reducible refine Ext.up ?_ _) | (with_reducible refine Ext.alloc ?_ _) | (with_reducible refine Ext.drew ?_) | (with_reducible refine Ext.setRow ?_ (by first | exact LeS.le | exact LeS.add _ | (simp; done) | (simp; omega)) _) | (with_reducible refine Ext.setCell ?_ (by first | exact LeS.le | exact LeS.add _ | (simp; done) | (simp; omega)) _))))).mono ?_; rintro e w' ⟨rfl, z1, rfl⟩) | (go_at_call 58; refine (kv _ (H.out.up (by repeat (first | (with_reducible exact Ext.refl _) | (with_reducible refine Ext.up ?_ _) | (with_reducible refine Ext.alloc ?_ _) | (with_reducible refine Ext.drew ?_) | (with_reducible refine Ext.setRow ?_ (by first | exact LeS.le | exact LeS.add _ | (simp; done) | (simp; omega)) _) | (with_reducible refine Ext.setCell ?_ (by first | exact LeS.le | exact LeS.add _ | (simp; done) | (simp; omega)) _))))).mono ?_; rintro e w' ⟨rfl, z2, rfl⟩) | ((go_at_call 76; refine (kr _ (H.out.up (by repeat (first | (with_reducible exact Ext.refl _) | (with_reducible refine Ext.up ?_ _) | (with_reducible refine Ext.alloc ?_ _) | (with_reducible refine Ext.drew ?_) | (with_reducible refine Ext.setRow ?_ (by first | exact LeS.le | exact LeS.add _ | (simp; done) | (simp; omega)) _) | (with_reducible refine Ext.setCell ?_ (by first | exact LeS.le | exact LeS.add _ | (simp; done) | (simp; omega)) _)))) (HL.out.up (by repeat (first | (with_reducible exact Ext.refl _) | (with_reducible refine Ext.up ?_ _) | (with_reducible refine Ext.alloc ?_ _) | (with_reducible refine Ext.drew ?_) | (with_reducible refine Ext.setRow ?_ (by first | exact LeS.le | exact LeS.add _ | (simp; done) | (simp; omega)) _) | (with_reducible refine Ext.setCell ?_ (by first | exact LeS.le | exact LeS.add _ | (simp; done) | (simp; omega)) _))))).mono ?_; rintro e w' ⟨v1, v2, ts, rfl, ⟨z3, rfl⟩, o1, oe, hts⟩); have O1 := Lib.hid o1; have hse := oe.se; rw [hts] at hse; have OE3 := Lib.hid hse; clear o1 oe hts hse))
        (refine wp_region_up (by kernel_rfl) (by kernel_rfl) ?_; (repeat (go_big_quiet_step (first | (go_at_call 77; exact Calls.up (kt _ _ ((O1.out.sl Ent.enc_length).up (by repeat (first | (with_reducible exact Ext.refl _) | (with_reducible refine Ext.up ?_ _) | (with_reducible refine Ext.alloc ?_ _) | (with_reducible refine Ext.drew ?_) | (with_reducible refine Ext.setRow ?_ (by first | exact LeS.le | exact LeS.add _ | (simp; done) | (simp; omega)) _) | (with_reducible refine Ext.setCell ?_ (by first | exact LeS.le | exact LeS.add _ | (simp; done) | (simp; omega)) _)))))) | (go_at_call 78; exact Calls.up (ke _ _ (OE3.out.up (by repeat (first | (with_reducible exact Ext.refl _) | (with_reducible refine Ext.up ?_ _) | (with_reducible refine Ext.alloc ?_ _) | (with_reducible refine Ext.drew ?_) | (with_reducible refine Ext.setRow ?_ (by first | exact LeS.le | exact LeS.add _ | (simp; done) | (simp; omega)) _) | (with_reducible refine Ext.setCell ?_ (by first | exact LeS.le | exact LeS.add _ | (simp; done) | (simp; omega)) _))))))))); refine wpQuiet_nil ?_; intro _ hw'; obtain ⟨zq, hw''⟩ := hw'; subst hw'')
        go_wp2_with fail
        go_ret
        exact ⟨rfl, (.of (by repeat (first | (with_reducible exact Ext.refl _) | (with_reducible refine Ext.up ?_ _) | (with_reducible refine Ext.alloc ?_ _) | (with_reducible refine Ext.drew ?_) | (with_reducible refine Ext.setRow ?_ (by first | exact LeS.le | exact LeS.add _ | (simp; done) | (simp; omega)) _) | (with_reducible refine Ext.setCell ?_ (by first | exact LeS.le | exact LeS.add _ | (simp; done) | (simp; omega)) _))))⟩
    · have e1 : decide (b.rt = rt) = false := by simp [h1]
      rw [e1] at q1
      rw [e1, Bool.false_and]
      clear e1 q2 h1
      go_enter Tryz.func44, Tryz.ntmps44
      go_wp2_with (first | (go_at_call 75; refine (kb _ (HL.out.up (by repeat (first | (with_reducible exact Ext.refl _) | (with_reducible refine Ext.up ?_ _) | (with_reducible refine Ext.alloc ?_ _) | (with_reducible refine Ext.drew ?_) | (with_reducible refine Ext.setRow ?_ (by first | exact LeS.le | exact LeS.add _ | (simp; done) | (simp; omega)) _) | (with_reducible refine Ext.setCell ?_ (by first | exact LeS.le | exact LeS.add _ | (simp; done) | (simp; omega)) _))))).mono ?_; rintro e w' ⟨rfl, z1, rfl⟩) | (go_at_call 58; refine (kv _ (H.out.up (by repeat (first | (with_reducible exact Ext.refl _) | (with_reducible refine Ext.up ?_ _) | (with_reducible refine Ext.alloc ?_ _) | (with_reducible refine Ext.drew ?_) | (with_reducible refine Ext.setRow ?_ (by first | exact LeS.le | exact LeS.add _ | (simp; done) | (simp; omega)) _) | (with_reducible refine Ext.setCell ?_ (by first | exact LeS.le | exact LeS.add _ | (simp; done) | (simp; omega)) _))))).mono ?_; rintro e w' ⟨rfl, z2, rfl⟩) | ((go_at_call 76; refine (kr _ (H.out.up (by repeat (first | (with_reducible exact Ext.refl _) | (with_reducible refine Ext.up ?_ _) | (with_reducible refine Ext.alloc ?_ _) | (with_reducible refine Ext.drew ?_) | (with_reducible refine Ext.setRow ?_ (by first | exact LeS.le | exact LeS.add _ | (simp; done) | (simp; omega)) _) | (with_reducible refine Ext.setCell ?_ (by first | exact LeS.le | exact LeS.add _ | (simp; done) | (simp; omega)) _)))) (HL.out.up (by repeat (first | (with_reducible exact Ext.refl _) | (with_reducible refine Ext.up ?_ _) | (with_reducible refine Ext.alloc ?_ _) | (with_reducible refine Ext.drew ?_) | (with_reducible refine Ext.setRow ?_ (by first | exact LeS.le | exact LeS.add _ | (simp; done) | (simp; omega)) _) | (with_reducible refine Ext.setCell ?_ (by first | exact LeS.le | exact LeS.add _ | (simp; done) | (simp; omega)) _))))).mono ?_; rintro e w' ⟨v1, v2, ts, rfl, ⟨z3, rfl⟩, o1, oe, hts⟩); have O1 := Lib.hid o1; have hse := oe.se; rw [hts] at hse; have OE3 := Lib.hid hse; clear o1 oe hts hse))
      (refine wp_region_up (by kernel_rfl) (by kernel_rfl) ?_; (repeat (go_big_quiet_step (first | (go_at_call 77; exact Calls.up (kt _ _ ((O1.out.sl Ent.enc_length).up (by repeat (first | (with_reducible exact Ext.refl _) | (with_reducible refine Ext.up ?_ _) | (with_reducible refine Ext.alloc ?_ _) | (with_reducible refine Ext.drew ?_) | (with_reducible refine Ext.setRow ?_ (by first | exact LeS.le | exact LeS.add _ | (simp; done) | (simp; omega)) _) | (with_reducible refine Ext.setCell ?_ (by first | exact LeS.le | exact LeS.add _ | (simp; done) | (simp; omega)) _)))))) | (go_at_call 78; exact Calls.up (ke _ _ (OE3.out.up (by repeat (first | (with_reducible exact Ext.refl _) | (with_reducible refine Ext.up ?_ _) | (with_reducible refine Ext.alloc ?_ _) | (with_reducible refine Ext.drew ?_) | (with_reducible refine Ext.setRow ?_ (by first | exact LeS.le | exact LeS.add _ | (simp; done) | (simp; omega)) _) | (with_reducible refine Ext.setCell ?_ (by first | exact LeS.le | exact LeS.add _ | (simp; done) | (simp; omega)) _))))))))); refine wpQuiet_nil ?_; intro _ hw'; obtain ⟨zq, hw''⟩ := hw'; subst hw'')
      go_wp2_with fail
      go_ret
      exact ⟨rfl, (.of (by repeat (first | (with_reducible exact Ext.refl _) | (with_reducible refine Ext.up ?_ _) | (with_reducible refine Ext.alloc ?_ _) | (with_reducible refine Ext.drew ?_) | (with_reducible refine Ext.setRow ?_ (by first | exact LeS.le | exact LeS.add _ | (simp; done) | (simp; omega)) _) | (with_reducible refine Ext.setCell ?_ (by first | exact LeS.le | exact LeS.add _ | (simp; done) | (simp; omega)) _))))⟩
set_option maxRecDepth 100000 in
set_option maxHeartbeats 2000000 in
theorem sBlockRight_any (b : Blk) (l : List Actn) (s : List Ent) (vl v : Value) (w : World) (hl : SL (RF Actn.enc) 4 w vl l) (h : SL (RF Ent.enc) 2 w v s) :
    Calls Tryz.prog 43 #[.agg #[.int .i64 b.bf, .int .i64 b.ht, .int .i64 b.vw, vl, .int .i64 b.rt, .int .i64 b.ef], v] w fun e w' => e = .returned (.bool (blkRight b l s)) ∧ Up w w' := by
  have H := Lib.hid h; have HL := Lib.hid hl
  obtain ⟨p, c, rfl, _, _⟩ := h.openc
  obtain ⟨p3, c3, rfl, _, _⟩ := hl.openc
  have kv := fun w (h : SL (RF Ent.enc) 2 w (.slice p s.length c) s) => sStoreValid_any s _ w h
  have kb := fun w (h : SL (RF Actn.enc) 4 w (.slice p3 l.length c3) l) => sBlockValid_any b l _ w h
  clear h hl
  rcases guards2 (b.okL l) (entsOk 1 s) with h1 | ⟨h1, h2⟩ | ⟨h1, h2⟩
  · rw [blkRight_no1 h1]
    simp only [h1] at kb
    clear h1
    go_enter Tryz.func43, Tryz.ntmps43
    go_wp2_with (first | (go_at_call 68; refine (kb _ (HL.out.up (by repeat (first | (with_reducible exact Ext.refl _) | (with_reducible refine Ext.up ?_ _) | (with_reducible refine Ext.alloc ?_ _) | (with_reducible refine Ext.drew ?_) | (with_reducible refine Ext.setRow ?_ (by first | exact LeS.le | exact LeS.add _ | (simp; done) | (simp; omega)) _) | (with_reducible refine Ext.setCell ?_ (by first | exact LeS.le | exact LeS.add _ | (simp; done) | (simp; omega)) _))))).mono ?_; rintro e w' ⟨rfl, z1, rfl⟩) | (go_at_call 52; refine (kv _ (H.out.up (by repeat (first | (with_reducible exact Ext.refl _) | (with_reducible refine Ext.up ?_ _) | (with_reducible refine Ext.alloc ?_ _) | (with_reducible refine Ext.drew ?_) | (with_reducible refine Ext.setRow ?_ (by first | exact LeS.le | exact LeS.add _ | (simp; done) | (simp; omega)) _) | (with_reducible refine Ext.setCell ?_ (by first | exact LeS.le | exact LeS.add _ | (simp; done) | (simp; omega)) _))))).mono ?_; rintro e w' ⟨rfl, z2, rfl⟩))
    go_ret
    exact ⟨rfl, (.of (by repeat (first | (with_reducible exact Ext.refl _) | (with_reducible refine Ext.up ?_ _) | (with_reducible refine Ext.alloc ?_ _) | (with_reducible refine Ext.drew ?_) | (with_reducible refine Ext.setRow ?_ (by first | exact LeS.le | exact LeS.add _ | (simp; done) | (simp; omega)) _) | (with_reducible refine Ext.setCell ?_ (by first | exact LeS.le | exact LeS.add _ | (simp; done) | (simp; omega)) _))))⟩
  · rw [blkRight_no2 h1 h2]
    simp only [h1] at kb
    simp only [h2] at kv
    clear h1 h2
    go_enter Tryz.func43, Tryz.ntmps43
    go_wp2_with (first | (go_at_call 68; refine (kb _ (HL.out.up (by repeat (first | (with_reducible exact Ext.refl _) | (with_reducible refine Ext.up ?_ _) | (with_reducible refine Ext.alloc ?_ _) | (with_reducible refine Ext.drew ?_) | (with_reducible refine Ext.setRow ?_ (by first | exact LeS.le | exact LeS.add _ | (simp; done) | (simp; omega)) _) | (with_reducible refine Ext.setCell ?_ (by first | exact LeS.le | exact LeS.add _ | (simp; done) | (simp; omega)) _))))).mono ?_; rintro e w' ⟨rfl, z1, rfl⟩) | (go_at_call 52; refine (kv _ (H.out.up (by repeat (first | (with_reducible exact Ext.refl _) | (with_reducible refine Ext.up ?_ _) | (with_reducible refine Ext.alloc ?_ _) | (with_reducible refine Ext.drew ?_) | (with_reducible refine Ext.setRow ?_ (by first | exact LeS.le | exact LeS.add _ | (simp; done) | (simp; omega)) _) | (with_reducible refine Ext.setCell ?_ (by first | exact LeS.le | exact LeS.add _ | (simp; done) | (simp; omega)) _))))).mono ?_; rintro e w' ⟨rfl, z2, rfl⟩))
    go_ret
    exact ⟨rfl, (.of (by repeat (first | (with_reducible exact Ext.refl _) | (with_reducible refine Ext.up ?_ _) | (with_reducible refine Ext.alloc ?_ _) | (with_reducible refine Ext.drew ?_) | (with_reducible refine Ext.setRow ?_ (by first | exact LeS.le | exact LeS.add _ | (simp; done) | (simp; omega)) _) | (with_reducible refine Ext.setCell ?_ (by first | exact LeS.le | exact LeS.add _ | (simp; done) | (simp; omega)) _))))⟩
  · rw [blkRight_yes h1 h2]
    have kr := fun w h h' => sRunSerial_yes s l (.slice p s.length c) (.slice p3 l.length c3) w h h' h2 (okL_acts h1)
    simp only [h1] at kb
    simp only [h2] at kv
    have hsm := Lib.hid (runAll_small (valsOf s) l)
    have hel : (runAll (valsOf s) l).2.length ≤ 1000 := by rw [runAll_len]; have := actsOk_len (okL_acts h1); omega
    clear h1 h2
    generalize runAll (valsOf s) l = R at *
    have kt := fun v w h => sRootOf_any (storeOf R.1) v w h
    have ke := fun v w h => sEffectsSum_any R.2 v w h (by omega) hsm.out
    generalize storeOf R.1 = S at *
    generalize rootOf S = rt at *
    generalize R.2 = es at *
    generalize effsSum es = ef at *
    have q1 : (rt == b.rt) = decide (b.rt = rt) := by rw [Bool.eq_iff_iff, beq_iff_eq, decide_eq_true_iff]; exact eq_comm
    have q2 : (ef == b.ef) = decide (b.ef = ef) := by rw [Bool.eq_iff_iff, beq_iff_eq, decide_eq_true_iff]; exact eq_comm
    by_cases h1 : b.rt = rt
    · have e1 : decide (b.rt = rt) = true := by simp [h1]
      rw [e1] at q1
      rw [e1, Bool.true_and, ← q2]
      have Q2 := Lib.hid q2
      clear e1 q2 h1
      rcases hb : (ef == b.ef) with _ | _
      all_goals
        clear Q2
        go_enter Tryz.func43, Tryz.ntmps43
        go_wp2_with (first | (go_at_call 68; refine (kb _ (HL.out.up (by repeat (first | (with_reducible exact Ext.refl _) | (with_reducible refine Ext.up ?_ _) | (with_reducible refine Ext.alloc ?_ _) | (with_reducible refine Ext.drew ?_) | (with_reducible refine Ext.setRow ?_ (by first | exact LeS.le | exact LeS.add _ | (simp; done) | (simp; omega)) _) | (with_reducible refine Ext.setCell ?_ (by first | exact LeS.le | exact LeS.add _ | (simp; done) | (simp; omega)) _))))).mono ?_; rintro e w' ⟨rfl, z1, rfl⟩) | (go_at_call 52; refine (kv _ (H.out.up (by repeat (first | (with_reducible exact Ext.refl _) | (with_reducible refine Ext.up ?_ _) | (with_reducible refine Ext.alloc ?_ _) | (with_reducible refine Ext.drew ?_) | (with_reducible refine Ext.setRow ?_ (by first | exact LeS.le | exact LeS.add _ | (simp; done) | (simp; omega)) _) | (with_reducible refine Ext.setCell ?_ (by first | exact LeS.le | exact LeS.add _ | (simp; done) | (simp; omega)) _))))).mono ?_; rintro e w' ⟨rfl, z2, rfl⟩) | ((go_at_call 29; refine (kr _ (H.out.up (by repeat (first | (with_reducible exact Ext.refl _) | (with_reducible refine Ext.up ?_ _) | (with_reducible refine Ext.alloc ?_ _) | (with_reducible refine Ext.drew ?_) | (with_reducible refine Ext.setRow ?_ (by first | exact LeS.le | exact LeS.add _ | (simp; done) | (simp; omega)) _) | (with_reducible refine Ext.setCell ?_ (by first | exact LeS.le | exact LeS.add _ | (simp; done) | (simp; omega)) _)))) (HL.out.up (by repeat (first | (with_reducible exact Ext.refl _) | (with_reducible refine Ext.up ?_ _) | (with_reducible refine Ext.alloc ?_ _) | (with_reducible refine Ext.drew ?_) | (with_reducible refine Ext.setRow ?_ (by first | exact LeS.le | exact LeS.add _ | (simp; done) | (simp; omega)) _) | (with_reducible refine Ext.setCell ?_ (by first | exact LeS.le | exact LeS.add _ | (simp; done) | (simp; omega)) _))))).mono ?_; rintro e w' ⟨v1, v2, ts, rfl, ⟨z3, rfl⟩, o1, oe, hts, _⟩); have O1 := Lib.hid o1; have hse := oe.se; rw [hts] at hse; have OE3 := Lib.hid hse; clear o1 oe hts hse))
        (refine wp_region_up (by kernel_rfl) (by kernel_rfl) ?_; (repeat (go_big_quiet_step (first | (go_at_call 73; exact Calls.up (kt _ _ ((O1.out.sl Ent.enc_length).up (by repeat (first | (with_reducible exact Ext.refl _) | (with_reducible refine Ext.up ?_ _) | (with_reducible refine Ext.alloc ?_ _) | (with_reducible refine Ext.drew ?_) | (with_reducible refine Ext.setRow ?_ (by first | exact LeS.le | exact LeS.add _ | (simp; done) | (simp; omega)) _) | (with_reducible refine Ext.setCell ?_ (by first | exact LeS.le | exact LeS.add _ | (simp; done) | (simp; omega)) _)))))) | (go_at_call 74; exact Calls.up (ke _ _ (OE3.out.up (by repeat (first | (with_reducible exact Ext.refl _) | (with_reducible refine Ext.up ?_ _) | (with_reducible refine Ext.alloc ?_ _) | (with_reducible refine Ext.drew ?_) | (with_reducible refine Ext.setRow ?_ (by first | exact LeS.le | exact LeS.add _ | (simp; done) | (simp; omega)) _) | (with_reducible refine Ext.setCell ?_ (by first | exact LeS.le | exact LeS.add _ | (simp; done) | (simp; omega)) _))))))))); refine wpQuiet_nil ?_; intro _ hw'; obtain ⟨zq, hw''⟩ := hw'; subst hw'')
        go_wp2_with fail
        go_ret
        exact ⟨rfl, (.of (by repeat (first | (with_reducible exact Ext.refl _) | (with_reducible refine Ext.up ?_ _) | (with_reducible refine Ext.alloc ?_ _) | (with_reducible refine Ext.drew ?_) | (with_reducible refine Ext.setRow ?_ (by first | exact LeS.le | exact LeS.add _ | (simp; done) | (simp; omega)) _) | (with_reducible refine Ext.setCell ?_ (by first | exact LeS.le | exact LeS.add _ | (simp; done) | (simp; omega)) _))))⟩
    · have e1 : decide (b.rt = rt) = false := by simp [h1]
      rw [e1] at q1
      rw [e1, Bool.false_and]
      clear e1 q2 h1
      go_enter Tryz.func43, Tryz.ntmps43
      go_wp2_with (first | (go_at_call 68; refine (kb _ (HL.out.up (by repeat (first | (with_reducible exact Ext.refl _) | (with_reducible refine Ext.up ?_ _) | (with_reducible refine Ext.alloc ?_ _) | (with_reducible refine Ext.drew ?_) | (with_reducible refine Ext.setRow ?_ (by first | exact LeS.le | exact LeS.add _ | (simp; done) | (simp; omega)) _) | (with_reducible refine Ext.setCell ?_ (by first | exact LeS.le | exact LeS.add _ | (simp; done) | (simp; omega)) _))))).mono ?_; rintro e w' ⟨rfl, z1, rfl⟩) | (go_at_call 52; refine (kv _ (H.out.up (by repeat (first | (with_reducible exact Ext.refl _) | (with_reducible refine Ext.up ?_ _) | (with_reducible refine Ext.alloc ?_ _) | (with_reducible refine Ext.drew ?_) | (with_reducible refine Ext.setRow ?_ (by first | exact LeS.le | exact LeS.add _ | (simp; done) | (simp; omega)) _) | (with_reducible refine Ext.setCell ?_ (by first | exact LeS.le | exact LeS.add _ | (simp; done) | (simp; omega)) _))))).mono ?_; rintro e w' ⟨rfl, z2, rfl⟩) | ((go_at_call 29; refine (kr _ (H.out.up (by repeat (first | (with_reducible exact Ext.refl _) | (with_reducible refine Ext.up ?_ _) | (with_reducible refine Ext.alloc ?_ _) | (with_reducible refine Ext.drew ?_) | (with_reducible refine Ext.setRow ?_ (by first | exact LeS.le | exact LeS.add _ | (simp; done) | (simp; omega)) _) | (with_reducible refine Ext.setCell ?_ (by first | exact LeS.le | exact LeS.add _ | (simp; done) | (simp; omega)) _)))) (HL.out.up (by repeat (first | (with_reducible exact Ext.refl _) | (with_reducible refine Ext.up ?_ _) | (with_reducible refine Ext.alloc ?_ _) | (with_reducible refine Ext.drew ?_) | (with_reducible refine Ext.setRow ?_ (by first | exact LeS.le | exact LeS.add _ | (simp; done) | (simp; omega)) _) | (with_reducible refine Ext.setCell ?_ (by first | exact LeS.le | exact LeS.add _ | (simp; done) | (simp; omega)) _))))).mono ?_; rintro e w' ⟨v1, v2, ts, rfl, ⟨z3, rfl⟩, o1, oe, hts, _⟩); have O1 := Lib.hid o1; have hse := oe.se; rw [hts] at hse; have OE3 := Lib.hid hse; clear o1 oe hts hse))
      (refine wp_region_up (by kernel_rfl) (by kernel_rfl) ?_; (repeat (go_big_quiet_step (first | (go_at_call 73; exact Calls.up (kt _ _ ((O1.out.sl Ent.enc_length).up (by repeat (first | (with_reducible exact Ext.refl _) | (with_reducible refine Ext.up ?_ _) | (with_reducible refine Ext.alloc ?_ _) | (with_reducible refine Ext.drew ?_) | (with_reducible refine Ext.setRow ?_ (by first | exact LeS.le | exact LeS.add _ | (simp; done) | (simp; omega)) _) | (with_reducible refine Ext.setCell ?_ (by first | exact LeS.le | exact LeS.add _ | (simp; done) | (simp; omega)) _)))))) | (go_at_call 74; exact Calls.up (ke _ _ (OE3.out.up (by repeat (first | (with_reducible exact Ext.refl _) | (with_reducible refine Ext.up ?_ _) | (with_reducible refine Ext.alloc ?_ _) | (with_reducible refine Ext.drew ?_) | (with_reducible refine Ext.setRow ?_ (by first | exact LeS.le | exact LeS.add _ | (simp; done) | (simp; omega)) _) | (with_reducible refine Ext.setCell ?_ (by first | exact LeS.le | exact LeS.add _ | (simp; done) | (simp; omega)) _))))))))); refine wpQuiet_nil ?_; intro _ hw'; obtain ⟨zq, hw''⟩ := hw'; subst hw'')
      go_wp2_with fail
      go_ret
      exact ⟨rfl, (.of (by repeat (first | (with_reducible exact Ext.refl _) | (with_reducible refine Ext.up ?_ _) | (with_reducible refine Ext.alloc ?_ _) | (with_reducible refine Ext.drew ?_) | (with_reducible refine Ext.setRow ?_ (by first | exact LeS.le | exact LeS.add _ | (simp; done) | (simp; omega)) _) | (with_reducible refine Ext.setCell ?_ (by first | exact LeS.le | exact LeS.add _ | (simp; done) | (simp; omega)) _))))⟩
end Go.Proofs.YtknohbdhbjppjaaGreat
namespace Go.Proofs.YtknohbdhbjppjaaGreat
open Go Go.RowKit Go.Proofs

def marksB (k : Int) (n : Nat) : List Bool := (List.range n).map fun i : Nat => ((k + (i : Int)) % 3 == 0)
theorem marksB_length (k : Int) (n : Nat) : (marksB k n).length = n := by simp [marksB]
theorem marksB_get {k : Int} {n i : Nat} (h : i < n) : (marksB k n)[i]? = some ((k + (i : Int)) % 3 == 0) := by simp [marksB, h]
theorem fB : AppFacts Tryz.prog 39 4 1 1 := by
  have h : (Tryz.prog.info? 4).map (fun i => (i.zero, i.size, i.bytes)) = some (some (.bool false), 1, 1) := by kernel_rfl
  obtain ⟨i0, hi, hz0, hz1, hz2⟩ := info_parts h
  exact ⟨Tryz.underlying39, ⟨i0, _, hi, hz0, hz1, hz2, rfl⟩, by decide⟩
set_option maxHeartbeats 1000000 in
theorem eqBoolS_same (l : List Bool) (v v' : Value) (w : World) (h : SL (RF encB) 1 w v l) (h' : SL (RF encB) 1 w v' l) :
    Calls Tryz.prog 17 #[v, v'] w fun e w' => e = .returned (.bool true) ∧ Up w w' := by
  obtain ⟨a, cap, rfl, hlen, hc⟩ := h.open
  obtain ⟨a', cap', rfl, _, hc'⟩ := h'.open
  go_enter Tryz.func17, Tryz.ntmps17
  go_wp2_with fail
  go_loopw [5] (fun s5 wr => ∃ (k : Nat), s5 = .int .i64 k ∧ k ≤ l.length ∧ Up w wr) (fun s5 _ => l.length - (intOf s5).toNat)
  case atStart => exact ⟨0, rfl, Nat.zero_le _, .of (Ext.refl _)⟩
  case round =>
    obtain ⟨k, rfl, hk, ⟨z, rfl⟩⟩ := hrel
    by_cases hlt : k < l.length
    · obtain ⟨x, hxk⟩ := getElem?_some_of_lt hlt
      obtain ⟨b, off, rfl, hb, hcc⟩ := hc k x hxk
      obtain ⟨b', off', rfl, hb', hdd⟩ := hc' k x hxk
      have c0 : w.cell? ⟨b, off + k, none⟩ = some (.bool x) := by have := hcc 0 _ rfl; simpa using this
      have d0 : w.cell? ⟨b', off' + k, none⟩ = some (.bool x) := by have := hdd 0 _ rfl; simpa using this
      have k0 : (0 : Int) ≤ (k : Int) := by omega
      clear hc hcc hc' hdd hxk
      go_wp2_with fail
      (refine wp_region_up (by kernel_rfl) (by kernel_rfl) ?_; (repeat (go_big_quiet_step (fail))); refine wpQuiet_nil ?_; intro _ hw'; obtain ⟨zq, hw''⟩ := hw'; subst hw'')
      go_wp2_with fail
      go_roundw
      case rel => exact ⟨k + 1, by go_num, by omega, (.of (by repeat (first | exact Ext.refl _ | refine Ext.up ?_ _ | refine Ext.alloc ?_ _ | refine Ext.drew ?_ | refine Ext.setRow ?_ (by first | (dsimp only; omega) | exact LeS.le | exact LeS.add _ | (simp; done) | (simp; omega)) _ | refine Ext.setCell ?_ (by first | (dsimp only; omega) | exact LeS.le | exact LeS.add _ | (simp; done) | (simp; omega)) _)))⟩
      case measure => simp [intOf]; omega
    · go_wp2_with fail
      go_ret
      exact ⟨rfl, z, rfl⟩
set_option maxHeartbeats 1000000 in
theorem markBoolS_any (lo : Nat) (l : List Bool) (v : Value) (m : Int) (w : World) (h : Own encB 4 1 lo w v l) (hm0 : 0 ≤ m) (hm1 : m ≤ 1000000000) (hn : l.length ≤ 1073741824) :
    Calls Tryz.prog 18 #[v, .int .i64 m] w fun e w' => e = .returned (.int .i64 (m + l.length)) ∧ w.grownBy w' v.ownBlock ∧ Own encB 4 1 lo w' v (marksB m l.length) := by
  have h0 : w.ownsRow lo 4 1 v l.length (l.flatMap encB) := h
  rcases h.2 with ⟨rfl, hn0⟩ | ⟨g, cap, cur, hv, _⟩
  · have : l = [] := List.eq_nil_of_length_eq_zero hn0
    subst this
    go_enter Tryz.func18, Tryz.ntmps18
    go_wp2
    refine wp_loop_rounds 1 ?_; rw [rounds_succ]
    go_wp2
    go_ret
    exact ⟨by simp, ⟨rfl, rfl, rfl, Nat.le_refl _, fun _ _ _ => rfl⟩, h⟩
  subst hv
  clear h
  have hcl : l.length ≤ 9223372036854775807 := by omega
  go_enter Tryz.func18, Tryz.ntmps18
  go_wp2_with fail
  go_loopw [1, 5] (fun s1 s5 wr => ∃ (k : Nat) (xs : List Value), s5 = .int .i64 k ∧ s1 = .int .i64 (m + k) ∧ k ≤ l.length ∧ w.grownBy wr (some g) ∧ wr.ownsRow lo 4 1 (.slice (some ⟨g, 0, none⟩) l.length cap) l.length xs ∧ Filled encB 1 (marksB m l.length) k xs) (fun _ s5 _ => l.length - (intOf s5).toNat)
  case atStart => exact ⟨0, _, rfl, by simp, Nat.zero_le _, ⟨rfl, rfl, rfl, Nat.le_refl _, fun _ _ _ => rfl⟩, h0, Filled.zero _ _ _ _⟩
  case round =>
    obtain ⟨k, xs, rfl, rfl, hk, hg, hown, hfill⟩ := hrel
    by_cases hlt : k < l.length
    · have hxl : xs.length = l.length * 1 := hown.1
      obtain ⟨u0, hu0⟩ := getElem?_some_of_lt (show k < xs.length by omega)
      have d0 : wr.cell? ⟨g, k, none⟩ = some u0 := (hown.cellAt _ (by omega)).trans hu0
      have f0 := hown.frozenAt (k)
      have hL : LtS g wr := LtS.of_some d0
      have hO := Lib.hid hown; have hF := Lib.hid hfill; have hXl := Lib.hid hxl; have hG := Lib.hid hg; have hH := Lib.hid h0
      clear hown hfill hxl hg h0 hu0
      go_wp2_with fail
      go_roundw
      case rel => exact ⟨k + 1, setAll xs k (encB ((m + (k : Int)) % 3 == 0)), by go_num, by go_num, by omega, World.grownBy.setAll ([.bool ((m + (k : Int)) % 3 == 0)]) (k) hG.out, ownsRow_setAll ([.bool ((m + (k : Int)) % 3 == 0)]) (k) hO.out, (by have := hF.out.next encB_length (marksB_get hlt) (by rw [marksB_length]; exact hXl.out); rwa [Nat.mul_one] at this)⟩
      case measure => simp [intOf]; omega
    · go_wp2_with fail
      go_ret
      obtain rfl : k = l.length := by omega
      refine ⟨rfl, hg, ?_⟩
      have e := Filled.all (l := marksB m l.length) encB_length (by rw [marksB_length]; exact hown.1) (by rw [marksB_length]; exact hfill)
      subst e
      show World.ownsRow _ _ _ _ _ _ _
      rw [marksB_length]
      exact hown
set_option maxHeartbeats 1000000 in
theorem heldBoolS_marks (n : Nat) (v : Value) (m : Int) (w : World) (h : SL (RF encB) 1 w v (marksB m n)) (hm0 : 0 ≤ m) (hm1 : m ≤ 1000000000) (hn : n ≤ 1073741824) :
    Calls Tryz.prog 19 #[v, .int .i64 m] w fun e w' => e = .returned (.int .i64 (m + n)) ∧ w = w' := by
  obtain ⟨a, cap, rfl, _, hc⟩ := h.open
  rw [marksB_length]
  go_enter Tryz.func19, Tryz.ntmps19
  go_wp2_with fail
  go_loop [1, 5] (fun s1 s5 => ∃ (k : Nat), s5 = .int .i64 k ∧ s1 = .int .i64 (m + k) ∧ k ≤ n) (fun _ s5 => n - (intOf s5).toNat)
  case atStart => exact ⟨0, rfl, by simp, Nat.zero_le _⟩
  case round =>
    obtain ⟨k, rfl, rfl, hk⟩ := hrel
    by_cases hlt : k < n
    · obtain ⟨b, off, rfl, hb, hcc⟩ := hc k _ (marksB_get hlt)
      have c0 : w.cell? ⟨b, off + k, none⟩ = some (.bool ((m + (k : Int)) % 3 == 0)) := by have := hcc 0 _ rfl; simpa using this
      clear hc hcc
      go_wp2_with fail
      go_round
      case rel => exact ⟨k + 1, by go_num, by go_num, by omega⟩
      case measure => simp [intOf]; omega
    · go_wp2_with fail
      go_ret
      obtain rfl : k = n := by omega
      exact ⟨rfl, rfl⟩
end Go.Proofs.YtknohbdhbjppjaaGreat
