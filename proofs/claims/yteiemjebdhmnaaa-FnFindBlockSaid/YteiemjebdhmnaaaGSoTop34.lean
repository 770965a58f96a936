/- Walks: drawn blocks with a store: DrawBlockRight (printed by wip/mkbrd.py). Plain law: blocks with another view, another height or another root have another sum. Walks: the law FnBlockRight. Plain ground: the blocks of a tree of the call's own, cell for cell. -/
import Derived.Test.YteiemjebdhmnaaaGSoTop28
import Derived.Test.YteiemjebdhmnaaaGSoTop13
import Derived.Test.YteiemjebdhmnaaaGSoTop20
import Derived.Test.YteiemjebdhmnaaaGSoTop19
import Derived.Test.YteiemjebdhmnaaaGSoTop05
import Derived.Test.YteiemjebdhmnaaaGSoTop24
import Derived.Test.YteiemjebdhmnaaaGSoTop26
set_option linter.unusedSimpArgs false
set_option linter.unusedVariables false
namespace Go.Proofs.Yteiemjebdhmnaaa
open Go Go.RowKit Go.Proofs

set_option maxRecDepth 100000 in
set_option maxHeartbeats 8000000 in
theorem drawBlockRight_any (bs : List Int) (v : Value) (w : World) (h : SL (RF encU) 1 w v bs) (hb : ∀ b ∈ bs, 0 ≤ b ∧ b ≤ 255) :
    Calls Try.prog 20 #[v] w fun e w' => ∃ (b : Blk) (v' : Value) (l : List Actn) (vs : Value) (s : List Ent), e = .returned (.tuple #[.agg #[.int .i64 b.bf, .int .i64 b.ht, .int .i64 b.vw, v', .int .i64 b.rt, .int .i64 b.ef], vs]) ∧ Up w w' ∧ SL (RF Actn.enc) 4 w' v' l ∧ SL (RF Ent.enc) 2 w' vs s := by
  have H := Lib.hid h; clear h
  go_enter Try.func20, Try.ntmps20
  go_wp2_with fail
  refine (open_any bs v _ (H.out.up (by repeat (first | (with_reducible exact Ext.refl _) | (with_reducible refine Ext.up ?_ _) | (with_reducible refine Ext.alloc ?_ _) | (with_reducible refine Ext.drew ?_) | (with_reducible refine Ext.setRow ?_ (by first | exact LeS.le | exact LeS.add _ | (simp; done) | (simp; omega)) _) | (with_reducible refine Ext.setCell ?_ (by first | exact LeS.le | exact LeS.add _ | (simp; done) | (simp; omega)) _)))) hb).mono ?_; rintro e w' ⟨rb, rfl, ⟨z0, rfl⟩, hr⟩
  have H0 := Lib.hid hr
  have hold := hr.old
  simp at hold
  have hLt0 : LtS rb z0.val := ⟨hr.lt⟩
  have hN0 : NeS w.heap.size rb := ⟨by omega⟩
  have hz0 := z0.ext.size
  simp at hz0
  clear hr
  go_wp2_with fail
  refine (drawStore_any _ _ rb 0 0 H0.out (by omega) (by omega) (by omega)).mono ?_; rintro e w' ⟨vs, s, rfl, hs33, hsok, ⟨z1, rfl⟩, hr, hs⟩
  have hsok := hsok rfl
  obtain ⟨ps, cs, rfl, _, _⟩ := (hs.sl Ent.enc_length).openc
  have H1 := Lib.hid hr; have HS1 := Lib.hid hs
  have hrlt0 := hLt0.lt
  have hLt1 : LtS rb z1.val := ⟨hr.lt⟩
  have hz1 := z1.grown.size
  clear hr hs hsok
  have kf := fun w h => sFirstBlock_any s (.slice ps s.length cs) w h
  generalize firstB s = F at *
  unfold Blk.agg at kf
  go_wp2_with fail
  refine (kf _ ((HS1.out.sl Ent.enc_length).up (by repeat (first | (with_reducible exact Ext.refl _) | (with_reducible refine Ext.up ?_ _) | (with_reducible refine Ext.alloc ?_ _) | (with_reducible refine Ext.drew ?_) | (with_reducible refine Ext.setRow ?_ (by first | exact LeS.le | exact LeS.add _ | (simp; done) | (simp; omega)) _) | (with_reducible refine Ext.setCell ?_ (by first | exact LeS.le | exact LeS.add _ | (simp; done) | (simp; omega)) _))))).mono ?_; rintro e w' ⟨rfl, ⟨z2, rfl⟩⟩
  go_wp2_with fail
  refine (actions_any _ _ rb 100 0 (H1.out.up (by repeat (first | (with_reducible exact Ext.refl _) | (with_reducible refine Ext.up ?_ _) | (with_reducible refine Ext.alloc ?_ _) | (with_reducible refine Ext.drew ?_) | (with_reducible refine Ext.setRow ?_ (by first | exact LeS.le | exact LeS.add _ | (simp; done) | (simp; omega)) _) | (with_reducible refine Ext.setCell ?_ (by first | exact LeS.le | exact LeS.add _ | (simp; done) | (simp; omega)) _)))) (by omega) (by omega) (by omega)).mono ?_; rintro e w' ⟨vl, l, rfl, hl11, _, _, ⟨z3, rfl⟩, hr, hl⟩
  obtain ⟨pl, cl, rfl, _, _⟩ := (hl.sl Actn.enc_length).openc
  have H3 := Lib.hid hr; have HL3 := Lib.hid hl
  have HS3 := Lib.hid ((HS1.out.up (show Ext z1.val z2.val from (by repeat (first | (with_reducible exact Ext.refl _) | (with_reducible refine Ext.up ?_ _) | (with_reducible refine Ext.alloc ?_ _) | (with_reducible refine Ext.drew ?_) | (with_reducible refine Ext.setRow ?_ (by first | exact LeS.le | exact LeS.add _ | (simp; done) | (simp; omega)) _) | (with_reducible refine Ext.setCell ?_ (by first | exact LeS.le | exact LeS.add _ | (simp; done) | (simp; omega)) _))))).upR (by omega) z3)
  have hLt3 : LtS rb z3.val := ⟨hr.lt⟩
  clear hr hl
  go_wp2_with fail
  refine (sNextBlock_any F [] _ _ _ s l 1 _ (SL.nil _ _ _ _ _) ((HS3.out.sl Ent.enc_length).up (by repeat (first | (with_reducible exact Ext.refl _) | (with_reducible refine Ext.up ?_ _) | (with_reducible refine Ext.alloc ?_ _) | (with_reducible refine Ext.drew ?_) | (with_reducible refine Ext.setRow ?_ (by first | exact LeS.le | exact LeS.add _ | (simp; done) | (simp; omega)) _) | (with_reducible refine Ext.setCell ?_ (by first | exact LeS.le | exact LeS.add _ | (simp; done) | (simp; omega)) _)))) ((HL3.out.sl Actn.enc_length).up (by repeat (first | (with_reducible exact Ext.refl _) | (with_reducible refine Ext.up ?_ _) | (with_reducible refine Ext.alloc ?_ _) | (with_reducible refine Ext.drew ?_) | (with_reducible refine Ext.setRow ?_ (by first | exact LeS.le | exact LeS.add _ | (simp; done) | (simp; omega)) _) | (with_reducible refine Ext.setCell ?_ (by first | exact LeS.le | exact LeS.add _ | (simp; done) | (simp; omega)) _))))).mono ?_; rintro e w' ⟨b, vb, bl, bo, rfl, ⟨z4, rfl⟩, _, hbl⟩
  obtain ⟨pb, cb, rfl, _, _⟩ := (hbl.sl Actn.enc_length).openc
  have hz2 := z2.ext.size
  have hz3 := z3.grown.size
  have hz4 := z4.ext.size
  have E4 : Ext (w.alloc (.cells #[.int .i64 0, .int .i64 0, .int .i64 0, .slice none 0 0, .int .i64 0, .int .i64 0] 39)) z4.val := (Ext.upR ((Ext.upR z0.ext (by simp; omega) z1).trans z2.ext) (by simp; omega) z3).trans z4.ext
  have hrlt := H3.out.lt
  have hNG : NeS z4.val.heap.size rb := ⟨by omega⟩
  have hNR : NeS w.heap.size rb := ⟨by omega⟩
  have hNRG : NeS w.heap.size z4.val.heap.size := ⟨by omega⟩
  have hNGR : NeS z4.val.heap.size w.heap.size := ⟨by omega⟩
  have HSN : (Value.slice ps s.length cs).ownBlock ≠ some z4.val.heap.size := fun e => by have := (World.ownsRow.lt HS3.out _ e).2; omega
  have HBN : (Value.slice pb bl.length cb).ownBlock ≠ some z4.val.heap.size := fun e => by have := (World.ownsRow.lt hbl _ e).2; omega
  have HB4 := Lib.hid hbl; have HS4 := Lib.hid (HS3.out.up z4.ext)
  have H4 := Lib.hid (H3.out.up z4.ext)
  have hLR4 : LtS w.heap.size z4.val := ⟨by omega⟩
  clear hbl
  go_wp2_with fail
  refine (odd_any _ _ rb _ 2 (H4.out.up (by repeat (first | (with_reducible exact Ext.refl _) | (with_reducible refine Ext.up ?_ _) | (with_reducible refine Ext.alloc ?_ _) | (with_reducible refine Ext.drew ?_) | (with_reducible refine Ext.setRow ?_ (by first | exact LeS.le | exact LeS.add _ | (simp; done) | (simp; omega)) _) | (with_reducible refine Ext.setCell ?_ (by first | exact LeS.le | exact LeS.add _ | (simp; done) | (simp; omega)) _)))) (by omega) (by omega) (by omega)).mono ?_; rintro e w' ⟨bo, rfl, _, ⟨z5, rfl⟩, hr5⟩
  have H5 := Lib.hid hr5
  have hLt5 : LtS rb z5.val := ⟨hr5.lt⟩
  have hz5 := z5.grown.size
  simp at hz5
  have E5 : Ext (w.alloc (.cells #[.int .i64 0, .int .i64 0, .int .i64 0, .slice none 0 0, .int .i64 0, .int .i64 0] 39)) z5.val := Ext.upR (show Ext _ (z4.val.alloc (.cells #[.int .i64 b.bf, .int .i64 b.ht, .int .i64 b.vw, .slice pb bl.length cb, .int .i64 b.rt, .int .i64 b.ef] 39)) from E4.alloc _) (by simp; omega) z5
  have HS5 := Lib.hid ((HS4.out.up (show Ext z4.val (z4.val.alloc (.cells #[.int .i64 b.bf, .int .i64 b.ht, .int .i64 b.vw, .slice pb bl.length cb, .int .i64 b.rt, .int .i64 b.ef] 39)) from (by repeat (first | (with_reducible exact Ext.refl _) | (with_reducible refine Ext.up ?_ _) | (with_reducible refine Ext.alloc ?_ _) | (with_reducible refine Ext.drew ?_) | (with_reducible refine Ext.setRow ?_ (by first | exact LeS.le | exact LeS.add _ | (simp; done) | (simp; omega)) _) | (with_reducible refine Ext.setCell ?_ (by first | exact LeS.le | exact LeS.add _ | (simp; done) | (simp; omega)) _))))).upR (by omega) z5)
  have HB5 := Lib.hid ((HB4.out.up (show Ext z4.val (z4.val.alloc (.cells #[.int .i64 b.bf, .int .i64 b.ht, .int .i64 b.vw, .slice pb bl.length cb, .int .i64 b.rt, .int .i64 b.ef] 39)) from (by repeat (first | (with_reducible exact Ext.refl _) | (with_reducible refine Ext.up ?_ _) | (with_reducible refine Ext.alloc ?_ _) | (with_reducible refine Ext.drew ?_) | (with_reducible refine Ext.setRow ?_ (by first | exact LeS.le | exact LeS.add _ | (simp; done) | (simp; omega)) _) | (with_reducible refine Ext.setCell ?_ (by first | exact LeS.le | exact LeS.add _ | (simp; done) | (simp; omega)) _))))).upR (by omega) z5)
  clear hr5
  rcases bo with _ | _
  · go_wp2_with fail
    have r0 : z5.val.cell? ⟨w.heap.size, 0, none⟩ = some (.int .i64 0) := by go_simp
    have r1 : z5.val.cell? ⟨w.heap.size, 1, none⟩ = some (.int .i64 0) := by go_simp
    have r2 : z5.val.cell? ⟨w.heap.size, 2, none⟩ = some (.int .i64 0) := by go_simp
    have r3 : z5.val.cell? ⟨w.heap.size, 3, none⟩ = some (.slice none 0 0) := by go_simp
    have r4 : z5.val.cell? ⟨w.heap.size, 4, none⟩ = some (.int .i64 0) := by go_simp
    have r5 : z5.val.cell? ⟨w.heap.size, 5, none⟩ = some (.int .i64 0) := by go_simp
    refine bodyPost_ret (v := .tuple #[.agg #[.int .i64 b.bf, .int .i64 b.ht, .int .i64 b.vw, .slice pb bl.length cb, .int .i64 b.rt, .int .i64 b.ef], .slice ps s.length cs]) (by simp [results, Try.results20, go_sem, r0, r1, r2, r3, r4, r5]) rfl ?_
    refine ⟨⟨b.bf, b.ht, b.vw, b.rt, b.ef⟩, _, bl, _, s, rfl, .of ?_, ?_, ?_⟩
    · (repeat (with_reducible refine Ext.setCell ?_ (by first | exact Nat.le_refl _ | exact Nat.le_succ _ | (dsimp only; omega) | omega) _))
      exact Ext.trans (show Ext w _ from (by repeat (first | (with_reducible exact Ext.refl _) | (with_reducible refine Ext.up ?_ _) | (with_reducible refine Ext.alloc ?_ _) | (with_reducible refine Ext.drew ?_) | (with_reducible refine Ext.setRow ?_ (by first | exact LeS.le | exact LeS.add _ | (simp; done) | (simp; omega)) _) | (with_reducible refine Ext.setCell ?_ (by first | exact LeS.le | exact LeS.add _ | (simp; done) | (simp; omega)) _)))) E5
    · refine Own.sl Actn.enc_length (lo := w.heap.size + 1) (e := 85) ?_
      (repeat (first | (with_reducible refine Own.setOld ?_ _ _ (by dsimp only; omega)) | (refine Own.setApart ?_ _ _ (.inr HBN))))
      exact HB5.out.lo (by omega)
    · refine Own.sl Ent.enc_length (lo := w.heap.size + 1) (e := 61) ?_
      (repeat (first | (with_reducible refine Own.setOld ?_ _ _ (by dsimp only; omega)) | (refine Own.setApart ?_ _ _ (.inr HSN))))
      exact HS5.out.lo (by omega)

  go_wp2_with fail
  refine (pick_any _ _ rb _ 4 (H5.out.up (by repeat (first | (with_reducible exact Ext.refl _) | (with_reducible refine Ext.up ?_ _) | (with_reducible refine Ext.alloc ?_ _) | (with_reducible refine Ext.drew ?_) | (with_reducible refine Ext.setRow ?_ (by first | exact LeS.le | exact LeS.add _ | (simp; done) | (simp; omega)) _) | (with_reducible refine Ext.setCell ?_ (by first | exact LeS.le | exact LeS.add _ | (simp; done) | (simp; omega)) _)))) (by omega) (by omega) (by omega)).mono ?_; rintro e w' ⟨q, rfl, q0, q1, _, ⟨z6, rfl⟩, hr6⟩
  have H6 := Lib.hid hr6
  have q1 := q1 (by omega)
  have hLt6 : LtS rb z6.val := ⟨hr6.lt⟩
  have hz6 := z6.grown.size
  have hLG5 : LtS z4.val.heap.size z5.val := ⟨by omega⟩
  have hLG6 : LtS z4.val.heap.size z6.val := ⟨by omega⟩
  have hLR5 : LtS w.heap.size z5.val := ⟨by omega⟩
  have hLR6 : LtS w.heap.size z6.val := ⟨by omega⟩
  have E6 := Ext.upR E5 (by simp; omega) z6
  have HS6 := Lib.hid (HS5.out.upR (by omega) z6)
  have HB6 := Lib.hid (HB5.out.upR (by omega) z6)
  clear hr6
  rcases (show q = 0 ∨ q = 1 ∨ q = 2 ∨ q = 3 by omega) with rfl | rfl | rfl | rfl
  · go_wp2_with fail
    have r0 : z6.val.cell? ⟨w.heap.size, 0, none⟩ = some (.int .i64 0) := by go_simp
    have r1 : z6.val.cell? ⟨w.heap.size, 1, none⟩ = some (.int .i64 0) := by go_simp
    have r2 : z6.val.cell? ⟨w.heap.size, 2, none⟩ = some (.int .i64 0) := by go_simp
    have r3 : z6.val.cell? ⟨w.heap.size, 3, none⟩ = some (.slice none 0 0) := by go_simp
    have r4 : z6.val.cell? ⟨w.heap.size, 4, none⟩ = some (.int .i64 0) := by go_simp
    have r5 : z6.val.cell? ⟨w.heap.size, 5, none⟩ = some (.int .i64 0) := by go_simp
    refine bodyPost_ret (v := .tuple #[.agg #[.int .i64 b.bf, .int .i64 b.ht, .int .i64 b.vw, .slice pb bl.length cb, .int .i64 ((wrap64 (b.rt + 1)).tmod 1000003), .int .i64 b.ef], .slice ps s.length cs]) (by simp [results, Try.results20, go_sem, r0, r1, r2, r3, r4, r5]) rfl ?_
    refine ⟨⟨b.bf, b.ht, b.vw, ((wrap64 (b.rt + 1)).tmod 1000003), b.ef⟩, _, bl, _, s, rfl, .of ?_, ?_, ?_⟩
    · (repeat (with_reducible refine Ext.setCell ?_ (by first | exact Nat.le_refl _ | exact Nat.le_succ _ | (dsimp only; omega) | omega) _))
      exact Ext.trans (show Ext w _ from (by repeat (first | (with_reducible exact Ext.refl _) | (with_reducible refine Ext.up ?_ _) | (with_reducible refine Ext.alloc ?_ _) | (with_reducible refine Ext.drew ?_) | (with_reducible refine Ext.setRow ?_ (by first | exact LeS.le | exact LeS.add _ | (simp; done) | (simp; omega)) _) | (with_reducible refine Ext.setCell ?_ (by first | exact LeS.le | exact LeS.add _ | (simp; done) | (simp; omega)) _)))) E6
    · refine Own.sl Actn.enc_length (lo := w.heap.size + 1) (e := 85) ?_
      (repeat (first | (with_reducible refine Own.setOld ?_ _ _ (by dsimp only; omega)) | (refine Own.setApart ?_ _ _ (.inr HBN))))
      exact HB6.out.lo (by omega)
    · refine Own.sl Ent.enc_length (lo := w.heap.size + 1) (e := 61) ?_
      (repeat (first | (with_reducible refine Own.setOld ?_ _ _ (by dsimp only; omega)) | (refine Own.setApart ?_ _ _ (.inr HSN))))
      exact HS6.out.lo (by omega)

  · go_wp2_with fail
    refine (pick_any _ _ rb _ 2 (H6.out.up (by repeat (first | (with_reducible exact Ext.refl _) | (with_reducible refine Ext.up ?_ _) | (with_reducible refine Ext.alloc ?_ _) | (with_reducible refine Ext.drew ?_) | (with_reducible refine Ext.setRow ?_ (by first | exact LeS.le | exact LeS.add _ | (simp; done) | (simp; omega)) _) | (with_reducible refine Ext.setCell ?_ (by first | exact LeS.le | exact LeS.add _ | (simp; done) | (simp; omega)) _)))) (by omega) (by omega) (by omega)).mono ?_; rintro e w' ⟨y, rfl, y0, y1, _, ⟨z7, rfl⟩, hr7⟩
    have y1 := y1 (by omega)
    have hLt7 : LtS rb z7.val := ⟨hr7.lt⟩
    have hz7 := z7.grown.size
    simp at hz7
    have hLG7 : LtS z4.val.heap.size z7.val := ⟨by omega⟩
    have hLR7 : LtS w.heap.size z7.val := ⟨by omega⟩
    have E7 := Ext.upR (show Ext _ (z6.val.alloc (.cells #[.int .i64 (-1), .int .i64 0] 3)) from E6.alloc _) (by simp; omega) z7
    have HS7 := Lib.hid ((HS6.out.up (show Ext z6.val (z6.val.alloc (.cells #[.int .i64 (-1), .int .i64 0] 3)) from (by repeat (first | (with_reducible exact Ext.refl _) | (with_reducible refine Ext.up ?_ _) | (with_reducible refine Ext.alloc ?_ _) | (with_reducible refine Ext.drew ?_) | (with_reducible refine Ext.setRow ?_ (by first | exact LeS.le | exact LeS.add _ | (simp; done) | (simp; omega)) _) | (with_reducible refine Ext.setCell ?_ (by first | exact LeS.le | exact LeS.add _ | (simp; done) | (simp; omega)) _))))).upR (by omega) z7)
    have HB7 := Lib.hid ((HB6.out.up (show Ext z6.val (z6.val.alloc (.cells #[.int .i64 (-1), .int .i64 0] 3)) from (by repeat (first | (with_reducible exact Ext.refl _) | (with_reducible refine Ext.up ?_ _) | (with_reducible refine Ext.alloc ?_ _) | (with_reducible refine Ext.drew ?_) | (with_reducible refine Ext.setRow ?_ (by first | exact LeS.le | exact LeS.add _ | (simp; done) | (simp; omega)) _) | (with_reducible refine Ext.setCell ?_ (by first | exact LeS.le | exact LeS.add _ | (simp; done) | (simp; omega)) _))))).upR (by omega) z7)
    clear hr7
    rcases (show y = 0 ∨ y = 1 by omega) with rfl | rfl
    · go_wp2_with fail
      have r0 : z7.val.cell? ⟨w.heap.size, 0, none⟩ = some (.int .i64 0) := by go_simp
      have r1 : z7.val.cell? ⟨w.heap.size, 1, none⟩ = some (.int .i64 0) := by go_simp
      have r2 : z7.val.cell? ⟨w.heap.size, 2, none⟩ = some (.int .i64 0) := by go_simp
      have r3 : z7.val.cell? ⟨w.heap.size, 3, none⟩ = some (.slice none 0 0) := by go_simp
      have r4 : z7.val.cell? ⟨w.heap.size, 4, none⟩ = some (.int .i64 0) := by go_simp
      have r5 : z7.val.cell? ⟨w.heap.size, 5, none⟩ = some (.int .i64 0) := by go_simp
      refine bodyPost_ret (v := .tuple #[.agg #[.int .i64 b.bf, .int .i64 b.ht, .int .i64 b.vw, .slice pb bl.length cb, .int .i64 b.rt, .int .i64 (-1)], .slice ps s.length cs]) (by simp [results, Try.results20, go_sem, r0, r1, r2, r3, r4, r5]) rfl ?_
      refine ⟨⟨b.bf, b.ht, b.vw, b.rt, (-1)⟩, _, bl, _, s, rfl, .of ?_, ?_, ?_⟩
      · (repeat (with_reducible refine Ext.setCell ?_ (by first | exact Nat.le_refl _ | exact Nat.le_succ _ | (dsimp only; omega) | omega) _))
        exact Ext.trans (show Ext w _ from (by repeat (first | (with_reducible exact Ext.refl _) | (with_reducible refine Ext.up ?_ _) | (with_reducible refine Ext.alloc ?_ _) | (with_reducible refine Ext.drew ?_) | (with_reducible refine Ext.setRow ?_ (by first | exact LeS.le | exact LeS.add _ | (simp; done) | (simp; omega)) _) | (with_reducible refine Ext.setCell ?_ (by first | exact LeS.le | exact LeS.add _ | (simp; done) | (simp; omega)) _)))) E7
      · refine Own.sl Actn.enc_length (lo := w.heap.size + 1) (e := 85) ?_
        (repeat (first | (with_reducible refine Own.setOld ?_ _ _ (by dsimp only; omega)) | (refine Own.setApart ?_ _ _ (.inr HBN))))
        exact HB7.out.lo (by omega)
      · refine Own.sl Ent.enc_length (lo := w.heap.size + 1) (e := 61) ?_
        (repeat (first | (with_reducible refine Own.setOld ?_ _ _ (by dsimp only; omega)) | (refine Own.setApart ?_ _ _ (.inr HSN))))
        exact HS7.out.lo (by omega)

    · go_wp2_with fail
      have r0 : z7.val.cell? ⟨w.heap.size, 0, none⟩ = some (.int .i64 0) := by go_simp
      have r1 : z7.val.cell? ⟨w.heap.size, 1, none⟩ = some (.int .i64 0) := by go_simp
      have r2 : z7.val.cell? ⟨w.heap.size, 2, none⟩ = some (.int .i64 0) := by go_simp
      have r3 : z7.val.cell? ⟨w.heap.size, 3, none⟩ = some (.slice none 0 0) := by go_simp
      have r4 : z7.val.cell? ⟨w.heap.size, 4, none⟩ = some (.int .i64 0) := by go_simp
      have r5 : z7.val.cell? ⟨w.heap.size, 5, none⟩ = some (.int .i64 0) := by go_simp
      refine bodyPost_ret (v := .tuple #[.agg #[.int .i64 b.bf, .int .i64 b.ht, .int .i64 b.vw, .slice pb bl.length cb, .int .i64 b.rt, .int .i64 0], .slice ps s.length cs]) (by simp [results, Try.results20, go_sem, r0, r1, r2, r3, r4, r5]) rfl ?_
      refine ⟨⟨b.bf, b.ht, b.vw, b.rt, 0⟩, _, bl, _, s, rfl, .of ?_, ?_, ?_⟩
      · (repeat (with_reducible refine Ext.setCell ?_ (by first | exact Nat.le_refl _ | exact Nat.le_succ _ | (dsimp only; omega) | omega) _))
        exact Ext.trans (show Ext w _ from (by repeat (first | (with_reducible exact Ext.refl _) | (with_reducible refine Ext.up ?_ _) | (with_reducible refine Ext.alloc ?_ _) | (with_reducible refine Ext.drew ?_) | (with_reducible refine Ext.setRow ?_ (by first | exact LeS.le | exact LeS.add _ | (simp; done) | (simp; omega)) _) | (with_reducible refine Ext.setCell ?_ (by first | exact LeS.le | exact LeS.add _ | (simp; done) | (simp; omega)) _)))) E7
      · refine Own.sl Actn.enc_length (lo := w.heap.size + 1) (e := 85) ?_
        (repeat (first | (with_reducible refine Own.setOld ?_ _ _ (by dsimp only; omega)) | (refine Own.setApart ?_ _ _ (.inr HBN))))
        exact HB7.out.lo (by omega)
      · refine Own.sl Ent.enc_length (lo := w.heap.size + 1) (e := 61) ?_
        (repeat (first | (with_reducible refine Own.setOld ?_ _ _ (by dsimp only; omega)) | (refine Own.setApart ?_ _ _ (.inr HSN))))
        exact HS7.out.lo (by omega)

  · go_wp2_with fail
    refine (drawStore_any _ _ rb _ 3 (H6.out.up (by repeat (first | (with_reducible exact Ext.refl _) | (with_reducible refine Ext.up ?_ _) | (with_reducible refine Ext.alloc ?_ _) | (with_reducible refine Ext.drew ?_) | (with_reducible refine Ext.setRow ?_ (by first | exact LeS.le | exact LeS.add _ | (simp; done) | (simp; omega)) _) | (with_reducible refine Ext.setCell ?_ (by first | exact LeS.le | exact LeS.add _ | (simp; done) | (simp; omega)) _)))) (by omega) (by omega) (by omega)).mono ?_; rintro e w' ⟨vs2, s2, rfl, _, _, ⟨z7, rfl⟩, hr7, hs7⟩
    obtain ⟨p7, c7, rfl, _, _⟩ := (hs7.sl Ent.enc_length).openc
    have hLt7 : LtS rb z7.val := ⟨hr7.lt⟩
    have hz7 := z7.grown.size
    have hLG7 : LtS z4.val.heap.size z7.val := ⟨by omega⟩
    have hLR7 : LtS w.heap.size z7.val := ⟨by omega⟩
    have E7 := Ext.upR E6 (by simp; omega) z7
    have HB7 := Lib.hid (HB6.out.upR (by omega) z7)
    have HSN7 : (Value.slice p7 s2.length c7).ownBlock ≠ some z4.val.heap.size := fun e => by have := (World.ownsRow.lt hs7 _ e).1; omega
    have HS7 := Lib.hid hs7
    clear hr7 hs7
    go_wp2_with fail
    have r0 : z7.val.cell? ⟨w.heap.size, 0, none⟩ = some (.int .i64 0) := by go_simp
    have r1 : z7.val.cell? ⟨w.heap.size, 1, none⟩ = some (.int .i64 0) := by go_simp
    have r2 : z7.val.cell? ⟨w.heap.size, 2, none⟩ = some (.int .i64 0) := by go_simp
    have r3 : z7.val.cell? ⟨w.heap.size, 3, none⟩ = some (.slice none 0 0) := by go_simp
    have r4 : z7.val.cell? ⟨w.heap.size, 4, none⟩ = some (.int .i64 0) := by go_simp
    have r5 : z7.val.cell? ⟨w.heap.size, 5, none⟩ = some (.int .i64 0) := by go_simp
    refine bodyPost_ret (v := .tuple #[.agg #[.int .i64 b.bf, .int .i64 b.ht, .int .i64 b.vw, .slice pb bl.length cb, .int .i64 b.rt, .int .i64 b.ef], .slice p7 s2.length c7]) (by simp [results, Try.results20, go_sem, r0, r1, r2, r3, r4, r5]) rfl ?_
    refine ⟨⟨b.bf, b.ht, b.vw, b.rt, b.ef⟩, _, bl, _, s2, rfl, .of ?_, ?_, ?_⟩
    · (repeat (with_reducible refine Ext.setCell ?_ (by first | exact Nat.le_refl _ | exact Nat.le_succ _ | (dsimp only; omega) | omega) _))
      exact Ext.trans (show Ext w _ from (by repeat (first | (with_reducible exact Ext.refl _) | (with_reducible refine Ext.up ?_ _) | (with_reducible refine Ext.alloc ?_ _) | (with_reducible refine Ext.drew ?_) | (with_reducible refine Ext.setRow ?_ (by first | exact LeS.le | exact LeS.add _ | (simp; done) | (simp; omega)) _) | (with_reducible refine Ext.setCell ?_ (by first | exact LeS.le | exact LeS.add _ | (simp; done) | (simp; omega)) _)))) E7
    · refine Own.sl Actn.enc_length (lo := w.heap.size + 1) (e := 85) ?_
      (repeat (first | (with_reducible refine Own.setOld ?_ _ _ (by dsimp only; omega)) | (refine Own.setApart ?_ _ _ (.inr HBN))))
      exact HB7.out.lo (by omega)
    · refine Own.sl Ent.enc_length (lo := w.heap.size + 1) (e := 61) ?_
      (repeat (first | (with_reducible refine Own.setOld ?_ _ _ (by dsimp only; omega)) | (refine Own.setApart ?_ _ _ (.inr HSN7))))
      exact HS7.out.lo (by omega)

  · go_wp2_with fail
    refine (actions_any _ _ rb _ 3 (H6.out.up (by repeat (first | (with_reducible exact Ext.refl _) | (with_reducible refine Ext.up ?_ _) | (with_reducible refine Ext.alloc ?_ _) | (with_reducible refine Ext.drew ?_) | (with_reducible refine Ext.setRow ?_ (by first | exact LeS.le | exact LeS.add _ | (simp; done) | (simp; omega)) _) | (with_reducible refine Ext.setCell ?_ (by first | exact LeS.le | exact LeS.add _ | (simp; done) | (simp; omega)) _)))) (by omega) (by omega) (by omega)).mono ?_; rintro e w' ⟨vl2, l2, rfl, _, _, _, ⟨z7, rfl⟩, hr7, hs7⟩
    obtain ⟨p7, c7, rfl, _, _⟩ := (hs7.sl Actn.enc_length).openc
    have hLt7 : LtS rb z7.val := ⟨hr7.lt⟩
    have hz7 := z7.grown.size
    have hLG7 : LtS z4.val.heap.size z7.val := ⟨by omega⟩
    have hLR7 : LtS w.heap.size z7.val := ⟨by omega⟩
    have E7 := Ext.upR E6 (by simp; omega) z7
    have HS7 := Lib.hid (HS6.out.upR (by omega) z7)
    have HBN7 : (Value.slice p7 l2.length c7).ownBlock ≠ some z4.val.heap.size := fun e => by have := (World.ownsRow.lt hs7 _ e).1; omega
    have HB7 := Lib.hid hs7
    clear hr7 hs7
    go_wp2_with fail
    have r0 : z7.val.cell? ⟨w.heap.size, 0, none⟩ = some (.int .i64 0) := by go_simp
    have r1 : z7.val.cell? ⟨w.heap.size, 1, none⟩ = some (.int .i64 0) := by go_simp
    have r2 : z7.val.cell? ⟨w.heap.size, 2, none⟩ = some (.int .i64 0) := by go_simp
    have r3 : z7.val.cell? ⟨w.heap.size, 3, none⟩ = some (.slice none 0 0) := by go_simp
    have r4 : z7.val.cell? ⟨w.heap.size, 4, none⟩ = some (.int .i64 0) := by go_simp
    have r5 : z7.val.cell? ⟨w.heap.size, 5, none⟩ = some (.int .i64 0) := by go_simp
    refine bodyPost_ret (v := .tuple #[.agg #[.int .i64 b.bf, .int .i64 b.ht, .int .i64 b.vw, .slice p7 l2.length c7, .int .i64 b.rt, .int .i64 b.ef], .slice ps s.length cs]) (by simp [results, Try.results20, go_sem, r0, r1, r2, r3, r4, r5]) rfl ?_
    refine ⟨⟨b.bf, b.ht, b.vw, b.rt, b.ef⟩, _, l2, _, s, rfl, .of ?_, ?_, ?_⟩
    · (repeat (with_reducible refine Ext.setCell ?_ (by first | exact Nat.le_refl _ | exact Nat.le_succ _ | (dsimp only; omega) | omega) _))
      exact Ext.trans (show Ext w _ from (by repeat (first | (with_reducible exact Ext.refl _) | (with_reducible refine Ext.up ?_ _) | (with_reducible refine Ext.alloc ?_ _) | (with_reducible refine Ext.drew ?_) | (with_reducible refine Ext.setRow ?_ (by first | exact LeS.le | exact LeS.add _ | (simp; done) | (simp; omega)) _) | (with_reducible refine Ext.setCell ?_ (by first | exact LeS.le | exact LeS.add _ | (simp; done) | (simp; omega)) _)))) E7
    · refine Own.sl Actn.enc_length (lo := w.heap.size + 1) (e := 85) ?_
      (repeat (first | (with_reducible refine Own.setOld ?_ _ _ (by dsimp only; omega)) | (refine Own.setApart ?_ _ _ (.inr HBN7))))
      exact HB7.out.lo (by omega)
    · refine Own.sl Ent.enc_length (lo := w.heap.size + 1) (e := 61) ?_
      (repeat (first | (with_reducible refine Own.setOld ?_ _ _ (by dsimp only; omega)) | (refine Own.setApart ?_ _ _ (.inr HSN))))
      exact HS7.out.lo (by omega)
end Go.Proofs.Yteiemjebdhmnaaa
namespace Go.Proofs.Yteiemjebdhmnaaa
open Go Go.RowKit Go.Proofs

theorem sumStep_inj {s s' x : Int} (h0 : 0 ≤ s) (h1 : s < 1000003) (k0 : 0 ≤ s') (k1 : s' < 1000003) (h : sumStep s x = sumStep s' x) : s = s' := by
  unfold sumStep at h; omega
theorem sumStep_inj' {s x x' : Int} (h0 : 0 ≤ x) (h1 : x < 1000003) (k0 : 0 ≤ x') (k1 : x' < 1000003) (h : sumStep s x = sumStep s x') : x = x' := by
  unfold sumStep at h; omega
theorem sumL_inj : ∀ (l : List Int) {s s' : Int}, 0 ≤ s → s < 1000003 → 0 ≤ s' → s' < 1000003 → sumL s l = sumL s' l → s = s'
  | [], _, _, _, _, _, _, h => h
  | x :: l, s, s', h0, h1, k0, k1, h => by
    have a := sumStep_in (s := s) (n := x)
    have b := sumStep_in (s := s') (n := x)
    exact sumStep_inj h0 h1 k0 k1 (sumL_inj l a.1 a.2 b.1 b.2 h)
theorem sumL_range : ∀ (l : List Int) {s : Int}, 0 ≤ s → s < 1000003 → 0 ≤ sumL s l ∧ sumL s l < 1000003
  | [], _, h0, h1 => ⟨h0, h1⟩
  | x :: l, s, _, _ => by
    have a := sumStep_in (s := s) (n := x)
    exact sumL_range l a.1 a.2
theorem bsum_range {b : Blk} {l : List Actn} (h : b.okL l = true) : 0 ≤ bsum b l ∧ bsum b l < 1000003 := by
  rw [bsum_yes h]; exact sumL_range _ (by omega) (by omega)
theorem Blk.okL_in2 {b : Blk} {l : List Actn} (h : b.okL l = true) : (0 ≤ b.rt ∧ b.rt ≤ 1000002) ∧ (0 ≤ b.ht ∧ b.ht ≤ 100) ∧ (0 ≤ b.vw ∧ b.vw ≤ 1000) := by
  simp only [Blk.okL, Bool.and_eq_true, inR_iff] at h
  exact ⟨h.2.1, h.2.2.2.1, h.2.2.2.2.1⟩
theorem sumL_cons (s x : Int) (l : List Int) : sumL s (x :: l) = sumL (sumStep s x) l := rfl
theorem sumL_app (s : Int) (l m : List Int) : sumL s (l ++ m) = sumL (sumL s l) m := by unfold sumL; rw [List.foldl_append]
theorem Blk.nums_eq (b : Blk) (l : List Actn) : b.nums l = b.bf :: b.ht :: b.vw :: ((l.length : Int) :: aNums l ++ [b.rt, b.ef]) := rfl
theorem bsum_vw {b : Blk} {l : List Actn} (h : b.okL l = true) {v : Int} (hv : v ≠ b.vw) : bsum ⟨b.bf, b.ht, v, b.rt, b.ef⟩ l ≠ bsum b l := by
  intro e
  rcases h2 : Blk.okL ⟨b.bf, b.ht, v, b.rt, b.ef⟩ l with _ | _
  · have := bsum_range h
    rw [bsum_no h2] at e; omega
  · rw [bsum_yes h, bsum_yes h2, Blk.nums_eq, Blk.nums_eq] at e
    simp only [sumL_cons] at e
    have i1 := Blk.okL_in2 h
    have i2 := Blk.okL_in2 h2
    simp only at i2
    have := sumL_inj _ sumStep_in.1 sumStep_in.2 sumStep_in.1 sumStep_in.2 e
    have := sumStep_inj' (by omega) (by omega) (by omega) (by omega) this
    exact hv this
theorem bsum_ht {b : Blk} {l : List Actn} (h : b.okL l = true) {v : Int} (hv : v ≠ b.ht) : bsum ⟨b.bf, v, b.vw, b.rt, b.ef⟩ l ≠ bsum b l := by
  intro e
  rcases h2 : Blk.okL ⟨b.bf, v, b.vw, b.rt, b.ef⟩ l with _ | _
  · have := bsum_range h
    rw [bsum_no h2] at e; omega
  · rw [bsum_yes h, bsum_yes h2, Blk.nums_eq, Blk.nums_eq] at e
    simp only [sumL_cons] at e
    have i1 := Blk.okL_in2 h
    have i2 := Blk.okL_in2 h2
    simp only at i2
    have := sumL_inj _ sumStep_in.1 sumStep_in.2 sumStep_in.1 sumStep_in.2 e
    have := sumStep_inj sumStep_in.1 sumStep_in.2 sumStep_in.1 sumStep_in.2 this
    have := sumStep_inj' (by omega) (by omega) (by omega) (by omega) this
    exact hv this
theorem bsum_end {b : Blk} {l : List Actn} (h : b.okL l = true) : bsum b l = sumStep (sumStep (sumL 22 (b.head l.length ++ aNums l)) b.rt) b.ef := by
  rw [bsum_yes h]; unfold Blk.nums; rw [sumL_app]; rfl
theorem bsum_rt {b : Blk} {l : List Actn} (h : b.okL l = true) {v : Int} (hv : v ≠ b.rt) : bsum ⟨b.bf, b.ht, b.vw, v, b.ef⟩ l ≠ bsum b l := by
  intro e
  rcases h2 : Blk.okL ⟨b.bf, b.ht, b.vw, v, b.ef⟩ l with _ | _
  · have := bsum_range h
    rw [bsum_no h2] at e; omega
  · rw [bsum_end h, bsum_end h2] at e
    have i1 := Blk.okL_in2 h
    have i2 := Blk.okL_in2 h2
    simp only at i2
    have e' : sumStep (sumStep (sumL 22 (b.head l.length ++ aNums l)) v) b.ef = sumStep (sumStep (sumL 22 (b.head l.length ++ aNums l)) b.rt) b.ef := e
    have := sumStep_inj sumStep_in.1 sumStep_in.2 sumStep_in.1 sumStep_in.2 e'
    have := sumStep_inj' (by omega) (by omega) (by omega) (by omega) this
    exact hv this
theorem xor1_ne {x : Int} (h0 : 0 ≤ x) (h1 : x ≤ 1000002) : bits .xor .i64 x 1 ≠ x := by
  intro e
  have h := i64_xor_nat x.toNat 1 (by omega) (by omega)
  rw [Int.toNat_of_nonneg h0] at h
  have h2 : ((x.toNat ^^^ 1 : Nat) : Int) = x := by rw [← h]; exact e
  have h3 : x.toNat ^^^ 1 = x.toNat := by omega
  have h4 : x.toNat ^^^ (x.toNat ^^^ 1) = 0 := by rw [h3]; exact Nat.xor_self _
  rw [← Nat.xor_assoc, Nat.xor_self, Nat.zero_xor] at h4
  cases h4
end Go.Proofs.Yteiemjebdhmnaaa
namespace Go.Proofs.Yteiemjebdhmnaaa
open Go Go.RowKit Go.Proofs

theorem blkRight_parts {b : Blk} {l : List Actn} {s : List Ent} (h : blkRight b l s = true) : b.okL l = true ∧ entsOk 1 s = true ∧ rootOf (srS s l) = b.rt ∧ effsSum (srE s l) = b.ef := by
  unfold blkRight at h
  simp only [Bool.and_eq_true, decide_eq_true_eq] at h
  obtain ⟨h1, h2, h3, h4⟩ := h
  obtain ⟨e1, e2⟩ := sr_yes (s := s) (l := l) (by unfold srOk; rw [h2, okL_acts h1]; rfl)
  rw [e1, e2]
  exact ⟨h1, h2, h3.symm, h4.symm⟩
theorem blkRight_other {b : Blk} {l : List Actn} {s : List Ent} (h : blkRight b l s = true) {r : Int} (hr : r ≠ b.rt) : blkRight ⟨b.bf, b.ht, b.vw, r, b.ef⟩ l s = false := by
  rw [← Bool.not_eq_true]
  intro h2
  have a := (blkRight_parts h).2.2.1
  have c := (blkRight_parts h2).2.2.1
  exact hr (c.symm.trans a)
theorem okL_rt {b : Blk} {l : List Actn} (h : b.okL l = true) : 0 ≤ b.rt ∧ b.rt ≤ 1000002 := by
  simp only [Blk.okL, Bool.and_eq_true, inR_iff] at h
  exact h.2.1
theorem srE_small (s : List Ent) (l : List Actn) : ∀ x ∈ srE s l, x.r.length ≤ 1000 ∧ x.w.length ≤ 1000 := by
  unfold srE
  split
  · exact runAll_small _ _
  · simp
set_option maxRecDepth 100000 in
set_option maxHeartbeats 4000000 in
theorem FnBlockRight_any (bs : List Int) (v : Value) (w : World) (h : SL (RF encU) 1 w v bs) (hb : ∀ b ∈ bs, 0 ≤ b ∧ b ≤ 255) :
    Calls Try.prog 5 #[v] w fun e w' => e = .returned (.bool true) ∧ Up w w' := by
  have H := Lib.hid h
  obtain ⟨p, c, rfl, _, _⟩ := h.openc
  clear h
  by_cases hl : 1048576 < bs.length
  · go_enter Try.func5, Try.ntmps5
    go_wp2_with fail
    go_ret
    exact ⟨rfl, (.of (by repeat (first | (with_reducible exact Ext.refl _) | (with_reducible refine Ext.up ?_ _) | (with_reducible refine Ext.alloc ?_ _) | (with_reducible refine Ext.drew ?_) | (with_reducible refine Ext.setRow ?_ (by first | exact LeS.le | exact LeS.add _ | (simp; done) | (simp; omega)) _) | (with_reducible refine Ext.setCell ?_ (by first | exact LeS.le | exact LeS.add _ | (simp; done) | (simp; omega)) _))))⟩
  go_enter Try.func5, Try.ntmps5
  go_wp2_with fail
  refine (drawBlockRight_any bs _ _ (H.out.up (by repeat (first | (with_reducible exact Ext.refl _) | (with_reducible refine Ext.up ?_ _) | (with_reducible refine Ext.alloc ?_ _) | (with_reducible refine Ext.drew ?_) | (with_reducible refine Ext.setRow ?_ (by first | exact LeS.le | exact LeS.add _ | (simp; done) | (simp; omega)) _) | (with_reducible refine Ext.setCell ?_ (by first | exact LeS.le | exact LeS.add _ | (simp; done) | (simp; omega)) _)))) hb).mono ?_; rintro e w' ⟨b, vl, l, vs, s, rfl, ⟨z0, rfl⟩, hsl, hss⟩
  obtain ⟨pl, cl, rfl, _, _⟩ := hsl.openc
  obtain ⟨ps, cs, rfl, _, _⟩ := hss.openc
  have HL := Lib.hid hsl; have HS := Lib.hid hss
  clear hsl hss
  have ki := fun w h h' => iBlockRight_any b l s (.slice pl l.length cl) (.slice ps s.length cs) w h h'
  have ks := fun w h h' => sBlockRight_any b l s (.slice pl l.length cl) (.slice ps s.length cs) w h h'
  rcases hok : blkRight b l s with _ | _
  · simp only [hok] at ki ks
    clear hok
    go_wp2_with (first | (go_at_call 18; refine (ki _ (HL.out.up (by repeat (first | (with_reducible exact Ext.refl _) | (with_reducible refine Ext.up ?_ _) | (with_reducible refine Ext.alloc ?_ _) | (with_reducible refine Ext.drew ?_) | (with_reducible refine Ext.setRow ?_ (by first | exact LeS.le | exact LeS.add _ | (simp; done) | (simp; omega)) _) | (with_reducible refine Ext.setCell ?_ (by first | exact LeS.le | exact LeS.add _ | (simp; done) | (simp; omega)) _)))) (HS.out.up (by repeat (first | (with_reducible exact Ext.refl _) | (with_reducible refine Ext.up ?_ _) | (with_reducible refine Ext.alloc ?_ _) | (with_reducible refine Ext.drew ?_) | (with_reducible refine Ext.setRow ?_ (by first | exact LeS.le | exact LeS.add _ | (simp; done) | (simp; omega)) _) | (with_reducible refine Ext.setCell ?_ (by first | exact LeS.le | exact LeS.add _ | (simp; done) | (simp; omega)) _))))).mono ?_; rintro e w' ⟨rfl, z1, rfl⟩) | (go_at_call 21; refine (ks _ (HL.out.up (by repeat (first | (with_reducible exact Ext.refl _) | (with_reducible refine Ext.up ?_ _) | (with_reducible refine Ext.alloc ?_ _) | (with_reducible refine Ext.drew ?_) | (with_reducible refine Ext.setRow ?_ (by first | exact LeS.le | exact LeS.add _ | (simp; done) | (simp; omega)) _) | (with_reducible refine Ext.setCell ?_ (by first | exact LeS.le | exact LeS.add _ | (simp; done) | (simp; omega)) _)))) (HS.out.up (by repeat (first | (with_reducible exact Ext.refl _) | (with_reducible refine Ext.up ?_ _) | (with_reducible refine Ext.alloc ?_ _) | (with_reducible refine Ext.drew ?_) | (with_reducible refine Ext.setRow ?_ (by first | exact LeS.le | exact LeS.add _ | (simp; done) | (simp; omega)) _) | (with_reducible refine Ext.setCell ?_ (by first | exact LeS.le | exact LeS.add _ | (simp; done) | (simp; omega)) _))))).mono ?_; rintro e w' ⟨rfl, z2, rfl⟩) | (go_at_call 12; refine (alive_any _).mono ?_; rintro e w' ⟨rfl, z4, rfl⟩))
    go_ret
    exact ⟨rfl, (.of (by repeat (first | (with_reducible exact Ext.refl _) | (with_reducible refine Ext.up ?_ _) | (with_reducible refine Ext.alloc ?_ _) | (with_reducible refine Ext.drew ?_) | (with_reducible refine Ext.setRow ?_ (by first | exact LeS.le | exact LeS.add _ | (simp; done) | (simp; omega)) _) | (with_reducible refine Ext.setCell ?_ (by first | exact LeS.le | exact LeS.add _ | (simp; done) | (simp; omega)) _))))⟩
  obtain ⟨hok1, hok2, hrt, hef⟩ := blkRight_parts hok
  have hoth := blkRight_other hok (xor1_ne (okL_rt hok1).1 (okL_rt hok1).2)
  have hsm := srE_small s l
  have kx := fun w h h' => iBlockRight_any ⟨b.bf, b.ht, b.vw, bits .xor .i64 b.rt 1, b.ef⟩ l s (.slice pl l.length cl) (.slice ps s.length cs) w h h'
  simp only [hoth] at kx
  simp only [hok] at ki ks
  have kr := fun w h h' => iRunSerial_any s l (.slice ps s.length cs) (.slice pl l.length cl) w h h'
  have kt := fun v w h => iRootOf_any (srS s l) v w h
  have ke := fun v w h => iEffectsSum_any (srE s l) v w h hsm
  rw [hrt] at kt
  rw [hef] at ke
  clear hok hok1 hok2 hrt hef hoth hsm
  generalize srS s l = S at *
  generalize srE s l = E at *
  go_wp2_with (first | (go_at_call 18; (with_reducible refine (ki _ (HL.out.up (by repeat (first | (with_reducible exact Ext.refl _) | (with_reducible refine Ext.up ?_ _) | (with_reducible refine Ext.alloc ?_ _) | (with_reducible refine Ext.drew ?_) | (with_reducible refine Ext.setRow ?_ (by first | exact LeS.le | exact LeS.add _ | (simp; done) | (simp; omega)) _) | (with_reducible refine Ext.setCell ?_ (by first | exact LeS.le | exact LeS.add _ | (simp; done) | (simp; omega)) _)))) (HS.out.up (by repeat (first | (with_reducible exact Ext.refl _) | (with_reducible refine Ext.up ?_ _) | (with_reducible refine Ext.alloc ?_ _) | (with_reducible refine Ext.drew ?_) | (with_reducible refine Ext.setRow ?_ (by first | exact LeS.le | exact LeS.add _ | (simp; done) | (simp; omega)) _) | (with_reducible refine Ext.setCell ?_ (by first | exact LeS.le | exact LeS.add _ | (simp; done) | (simp; omega)) _))))).mono ?_); rintro e w' ⟨rfl, z1, rfl⟩) | (go_at_call 21; refine (ks _ (HL.out.up (by repeat (first | (with_reducible exact Ext.refl _) | (with_reducible refine Ext.up ?_ _) | (with_reducible refine Ext.alloc ?_ _) | (with_reducible refine Ext.drew ?_) | (with_reducible refine Ext.setRow ?_ (by first | exact LeS.le | exact LeS.add _ | (simp; done) | (simp; omega)) _) | (with_reducible refine Ext.setCell ?_ (by first | exact LeS.le | exact LeS.add _ | (simp; done) | (simp; omega)) _)))) (HS.out.up (by repeat (first | (with_reducible exact Ext.refl _) | (with_reducible refine Ext.up ?_ _) | (with_reducible refine Ext.alloc ?_ _) | (with_reducible refine Ext.drew ?_) | (with_reducible refine Ext.setRow ?_ (by first | exact LeS.le | exact LeS.add _ | (simp; done) | (simp; omega)) _) | (with_reducible refine Ext.setCell ?_ (by first | exact LeS.le | exact LeS.add _ | (simp; done) | (simp; omega)) _))))).mono ?_; rintro e w' ⟨rfl, z2, rfl⟩) | ((go_at_call 13; refine (kr _ (HS.out.up (by repeat (first | (with_reducible exact Ext.refl _) | (with_reducible refine Ext.up ?_ _) | (with_reducible refine Ext.alloc ?_ _) | (with_reducible refine Ext.drew ?_) | (with_reducible refine Ext.setRow ?_ (by first | exact LeS.le | exact LeS.add _ | (simp; done) | (simp; omega)) _) | (with_reducible refine Ext.setCell ?_ (by first | exact LeS.le | exact LeS.add _ | (simp; done) | (simp; omega)) _)))) (HL.out.up (by repeat (first | (with_reducible exact Ext.refl _) | (with_reducible refine Ext.up ?_ _) | (with_reducible refine Ext.alloc ?_ _) | (with_reducible refine Ext.drew ?_) | (with_reducible refine Ext.setRow ?_ (by first | exact LeS.le | exact LeS.add _ | (simp; done) | (simp; omega)) _) | (with_reducible refine Ext.setCell ?_ (by first | exact LeS.le | exact LeS.add _ | (simp; done) | (simp; omega)) _))))).mono ?_; rintro e w' ⟨vo, ve, rfl, ⟨z3, rfl⟩, so, se⟩); obtain ⟨po, co, hvo, _, _⟩ := so.openc; subst hvo; obtain ⟨pe, ce, hve, _⟩ := se.open; subst hve; have SO := Lib.hid so; have SEE := Lib.hid se; clear so se))
  (refine wp_region_up (by kernel_rfl) (by kernel_rfl) ?_; (repeat (go_big_quiet_step (first | (go_at_call 18; with_reducible exact Calls.up (kx _ (HL.out.up (by repeat (first | (with_reducible exact Ext.refl _) | (with_reducible refine Ext.up ?_ _) | (with_reducible refine Ext.alloc ?_ _) | (with_reducible refine Ext.drew ?_) | (with_reducible refine Ext.setRow ?_ (by first | exact LeS.le | exact LeS.add _ | (simp; done) | (simp; omega)) _) | (with_reducible refine Ext.setCell ?_ (by first | exact LeS.le | exact LeS.add _ | (simp; done) | (simp; omega)) _)))) (HS.out.up (by repeat (first | (with_reducible exact Ext.refl _) | (with_reducible refine Ext.up ?_ _) | (with_reducible refine Ext.alloc ?_ _) | (with_reducible refine Ext.drew ?_) | (with_reducible refine Ext.setRow ?_ (by first | exact LeS.le | exact LeS.add _ | (simp; done) | (simp; omega)) _) | (with_reducible refine Ext.setCell ?_ (by first | exact LeS.le | exact LeS.add _ | (simp; done) | (simp; omega)) _)))))) | (go_at_call 19; exact Calls.up (kt _ _ (SO.out.up (by repeat (first | (with_reducible exact Ext.refl _) | (with_reducible refine Ext.up ?_ _) | (with_reducible refine Ext.alloc ?_ _) | (with_reducible refine Ext.drew ?_) | (with_reducible refine Ext.setRow ?_ (by first | exact LeS.le | exact LeS.add _ | (simp; done) | (simp; omega)) _) | (with_reducible refine Ext.setCell ?_ (by first | exact LeS.le | exact LeS.add _ | (simp; done) | (simp; omega)) _)))))) | (go_at_call 22; exact Calls.up (ke _ _ (SEE.out.up (by repeat (first | (with_reducible exact Ext.refl _) | (with_reducible refine Ext.up ?_ _) | (with_reducible refine Ext.alloc ?_ _) | (with_reducible refine Ext.drew ?_) | (with_reducible refine Ext.setRow ?_ (by first | exact LeS.le | exact LeS.add _ | (simp; done) | (simp; omega)) _) | (with_reducible refine Ext.setCell ?_ (by first | exact LeS.le | exact LeS.add _ | (simp; done) | (simp; omega)) _))))))))); refine wpQuiet_nil ?_; intro _ hw'; obtain ⟨zq, hw''⟩ := hw'; subst hw'')
  go_wp2_with fail
  go_ret
  exact ⟨rfl, (.of (by repeat (first | (with_reducible exact Ext.refl _) | (with_reducible refine Ext.up ?_ _) | (with_reducible refine Ext.alloc ?_ _) | (with_reducible refine Ext.drew ?_) | (with_reducible refine Ext.setRow ?_ (by first | exact LeS.le | exact LeS.add _ | (simp; done) | (simp; omega)) _) | (with_reducible refine Ext.setCell ?_ (by first | exact LeS.le | exact LeS.add _ | (simp; done) | (simp; omega)) _))))⟩
end Go.Proofs.Yteiemjebdhmnaaa
namespace Go.Proofs.Yteiemjebdhmnaaa
open Go Go.RowKit Go.Proofs

theorem OTA.blks {eE eB eA eI lo : Nat} {w : World} {u0 u1 u2 : Value} {t : Tree} {bs : List TB} (h : OTA eE eB eA eI lo w u0 u1 u2 t.base bs t.pr) (hc : bs.map TB.core = t.bs) (h1 : 1 ≤ t.bs.length) : ∃ (b off c1 : Nat), u1 = .slice (some ⟨b, off, none⟩) t.bs.length c1 ∧ LtS b w ∧ lo ≤ b ∧
    ∀ m, m < t.bs.length → ∃ (xb : Blk) (xl : List Actn) (pv : Option Addr) (cv : Nat), t.bs[m]? = some (xb, xl) ∧ w.cell? ⟨b, off + m * 6, none⟩ = some (.int .i64 xb.bf) ∧ w.cell? ⟨b, off + m * 6 + 1, none⟩ = some (.int .i64 xb.ht) ∧ w.cell? ⟨b, off + m * 6 + 2, none⟩ = some (.int .i64 xb.vw) ∧ w.cell? ⟨b, off + m * 6 + 3, none⟩ = some (.slice pv xl.length cv) ∧ w.cell? ⟨b, off + m * 6 + 4, none⟩ = some (.int .i64 xb.rt) ∧ w.cell? ⟨b, off + m * 6 + 5, none⟩ = some (.int .i64 xb.ef) ∧
    Own Actn.enc eA 4 lo w (.slice pv xl.length cv) xl := by
  have hlen : bs.length = t.bs.length := by rw [← hc, List.length_map]
  obtain ⟨a, c1, hv, _, hcc⟩ := (h.obs.1.sl TB.enc_length).open
  obtain ⟨x0, hx0⟩ := getElem?_some_of_lt (l := bs) (k := 0) (by omega)
  obtain ⟨b, off, rfl, hb, _⟩ := hcc 0 x0 hx0
  have hrow : u1.ownBlock = some b := by rw [hv]; rfl
  refine ⟨b, off, c1, by rw [hv, hlen], hb, (World.ownsRow.lt h.obs.1 b hrow).1, fun m hm => ?_⟩
  obtain ⟨x, hx⟩ := getElem?_some_of_lt (l := bs) (k := m) (by omega)
  obtain ⟨b', off', he, _, hcell⟩ := hcc m x hx
  cases he
  have hown := (h.obs.2.1 x (List.mem_of_getElem? hx)).1
  obtain ⟨xb, xv, xl⟩ := x
  obtain ⟨pv, cv, hpv, _, _⟩ := (hown.sl Actn.enc_length).openc
  simp only at hpv hown
  subst hpv
  refine ⟨xb, xl, pv, cv, by rw [← hc, List.getElem?_map, hx]; rfl, ?_, ?_, ?_, ?_, ?_, ?_, hown⟩
  · simpa using hcell 0 _ rfl
  · exact hcell 1 _ rfl
  · exact hcell 2 _ rfl
  · exact hcell 3 _ rfl
  · exact hcell 4 _ rfl
  · exact hcell 5 _ rfl
end Go.Proofs.Yteiemjebdhmnaaa
