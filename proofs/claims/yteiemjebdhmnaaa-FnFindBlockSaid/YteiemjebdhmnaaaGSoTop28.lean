/- Walks: next blocks, stores of trees: the reference's side. Walks: stores of trees: the reference's side (a weak contract). Walks: trees that grow: the reference's side (a weak contract: the tree stays valid). -/
import Derived.Test.YteiemjebdhmnaaaGSoTop13
import Derived.Test.YteiemjebdhmnaaaGSoTop23
import Derived.Test.YteiemjebdhmnaaaGSoTop18
import Derived.Test.YteiemjebdhmnaaaGSoTop20
import Derived.Test.YteiemjebdhmnaaaGSoTop27
set_option linter.unusedSimpArgs false
set_option linter.unusedVariables false
namespace Go.Proofs.Yteiemjebdhmnaaa
open Go Go.RowKit Go.Proofs

set_option maxRecDepth 100000 in
set_option maxHeartbeats 30000000 in
theorem sNextBlock_any (b : Blk) (bl : List Actn) (vb vs vl : Value) (s : List Ent) (l : List Actn) (view : Int) (w : World) (hb : SL (RF Actn.enc) 4 w vb bl) (hs : SL (RF Ent.enc) 2 w vs s) (hl : SL (RF Actn.enc) 4 w vl l) :
    Calls Try.prog 52 #[.agg #[.int .i64 b.bf, .int .i64 b.ht, .int .i64 b.vw, vb, .int .i64 b.rt, .int .i64 b.ef], vs, .int .i64 view, vl] w fun e w' => ∃ (b' : Blk) (v' : Value) (l' : List Actn) (ok : Bool), e = .returned (.tuple #[.agg #[.int .i64 b'.bf, .int .i64 b'.ht, .int .i64 b'.vw, v', .int .i64 b'.rt, .int .i64 b'.ef], .bool ok]) ∧ Up w w' ∧ l'.length ≤ l.length ∧ Own Actn.enc 85 4 w.heap.size w' v' l' := by
  have HB := Lib.hid hb; have HS := Lib.hid hs; have HL := Lib.hid hl
  obtain ⟨pb, cb, rfl, _, _⟩ := hb.openc
  obtain ⟨ps, cs, rfl, _, _⟩ := hs.openc
  obtain ⟨pl, cl, rfl, _, _⟩ := hl.openc
  have kb := fun w h => sBlockValid_any b bl (.slice pb bl.length cb) w h
  have ks := fun w h => sStoreValid_any s (.slice ps s.length cs) w h
  have ki := fun w => l1In_any view (b.vw + 1) 1000 w
  have kl := fun w h => sActionsValid_any l (.slice pl l.length cl) w h
  clear hb hs hl
  rcases h1 : b.okL bl with _ | _
  · simp only [h1] at kb
    clear h1 ki ks kl
    go_enter Try.func52, Try.ntmps52
    go_wp2_with (first | (go_at_call 37; refine (kb _ (HB.out.up (by repeat (first | (with_reducible exact Ext.refl _) | (with_reducible refine Ext.up ?_ _) | (with_reducible refine Ext.alloc ?_ _) | (with_reducible refine Ext.drew ?_) | (with_reducible refine Ext.setRow ?_ (by first | exact LeS.le | exact LeS.add _ | (simp; done) | (simp; omega)) _) | (with_reducible refine Ext.setCell ?_ (by first | exact LeS.le | exact LeS.add _ | (simp; done) | (simp; omega)) _))))).mono ?_; rintro e w' ⟨rfl, z1, rfl⟩) | (go_at_call 35; refine (ks _ (HS.out.up (by repeat (first | (with_reducible exact Ext.refl _) | (with_reducible refine Ext.up ?_ _) | (with_reducible refine Ext.alloc ?_ _) | (with_reducible refine Ext.drew ?_) | (with_reducible refine Ext.setRow ?_ (by first | exact LeS.le | exact LeS.add _ | (simp; done) | (simp; omega)) _) | (with_reducible refine Ext.setCell ?_ (by first | exact LeS.le | exact LeS.add _ | (simp; done) | (simp; omega)) _))))).mono ?_; rintro e w' ⟨rfl, z2, rfl⟩) | (go_at_call 36; (with_reducible refine (ki _).mono ?_); rintro e w' ⟨rfl, rfl⟩) | (go_at_call 65; refine (kl _ (HL.out.up (by repeat (first | (with_reducible exact Ext.refl _) | (with_reducible refine Ext.up ?_ _) | (with_reducible refine Ext.alloc ?_ _) | (with_reducible refine Ext.drew ?_) | (with_reducible refine Ext.setRow ?_ (by first | exact LeS.le | exact LeS.add _ | (simp; done) | (simp; omega)) _) | (with_reducible refine Ext.setCell ?_ (by first | exact LeS.le | exact LeS.add _ | (simp; done) | (simp; omega)) _))))).mono ?_; rintro e w' ⟨rfl, z3, rfl⟩))
    refine bodyPost_ret (v := .tuple #[.agg #[.int .i64 0, .int .i64 0, .int .i64 0, .slice none 0 0, .int .i64 0, .int .i64 0], .bool false]) (by simp [results, Try.results52, go_sem]) rfl ?_
    exact ⟨⟨0, 0, 0, 0, 0⟩, _, [], _, rfl, (.of (by repeat (first | (with_reducible exact Ext.refl _) | (with_reducible refine Ext.up ?_ _) | (with_reducible refine Ext.alloc ?_ _) | (with_reducible refine Ext.drew ?_) | (with_reducible refine Ext.setRow ?_ (by first | exact LeS.le | exact LeS.add _ | (simp; done) | (simp; omega)) _) | (with_reducible refine Ext.setCell ?_ (by first | exact LeS.le | exact LeS.add _ | (simp; done) | (simp; omega)) _)))), Nat.zero_le _, Own.nil _ _ _ _ _⟩
  simp only [h1] at kb
  have hin := Blk.okL_in h1
  have hw1 : IntKind.i64.wrap (b.vw + 1) = b.vw + 1 := IntWalk.i64_in _ (by omega)
  have hw2 : IntKind.i64.wrap (b.ht + 1) = b.ht + 1 := IntWalk.i64_in _ (by omega)
  rcases ne_cases b.ht 100 with ⟨h2, h2'⟩ | ⟨h2, h2'⟩
  rotate_left
  · clear h1 hin h2
    have h2'' : (b.ht == 100) = true := by simpa using h2'
    clear ki ks kl
    go_enter Try.func52, Try.ntmps52
    go_wp2_with (first | (go_at_call 37; refine (kb _ (HB.out.up (by repeat (first | (with_reducible exact Ext.refl _) | (with_reducible refine Ext.up ?_ _) | (with_reducible refine Ext.alloc ?_ _) | (with_reducible refine Ext.drew ?_) | (with_reducible refine Ext.setRow ?_ (by first | exact LeS.le | exact LeS.add _ | (simp; done) | (simp; omega)) _) | (with_reducible refine Ext.setCell ?_ (by first | exact LeS.le | exact LeS.add _ | (simp; done) | (simp; omega)) _))))).mono ?_; rintro e w' ⟨rfl, z1, rfl⟩) | (go_at_call 35; refine (ks _ (HS.out.up (by repeat (first | (with_reducible exact Ext.refl _) | (with_reducible refine Ext.up ?_ _) | (with_reducible refine Ext.alloc ?_ _) | (with_reducible refine Ext.drew ?_) | (with_reducible refine Ext.setRow ?_ (by first | exact LeS.le | exact LeS.add _ | (simp; done) | (simp; omega)) _) | (with_reducible refine Ext.setCell ?_ (by first | exact LeS.le | exact LeS.add _ | (simp; done) | (simp; omega)) _))))).mono ?_; rintro e w' ⟨rfl, z2, rfl⟩) | (go_at_call 36; (with_reducible refine (ki _).mono ?_); rintro e w' ⟨rfl, rfl⟩) | (go_at_call 65; refine (kl _ (HL.out.up (by repeat (first | (with_reducible exact Ext.refl _) | (with_reducible refine Ext.up ?_ _) | (with_reducible refine Ext.alloc ?_ _) | (with_reducible refine Ext.drew ?_) | (with_reducible refine Ext.setRow ?_ (by first | exact LeS.le | exact LeS.add _ | (simp; done) | (simp; omega)) _) | (with_reducible refine Ext.setCell ?_ (by first | exact LeS.le | exact LeS.add _ | (simp; done) | (simp; omega)) _))))).mono ?_; rintro e w' ⟨rfl, z3, rfl⟩))
    refine bodyPost_ret (v := .tuple #[.agg #[.int .i64 0, .int .i64 0, .int .i64 0, .slice none 0 0, .int .i64 0, .int .i64 0], .bool false]) (by simp [results, Try.results52, go_sem]) rfl ?_
    exact ⟨⟨0, 0, 0, 0, 0⟩, _, [], _, rfl, (.of (by repeat (first | (with_reducible exact Ext.refl _) | (with_reducible refine Ext.up ?_ _) | (with_reducible refine Ext.alloc ?_ _) | (with_reducible refine Ext.drew ?_) | (with_reducible refine Ext.setRow ?_ (by first | exact LeS.le | exact LeS.add _ | (simp; done) | (simp; omega)) _) | (with_reducible refine Ext.setCell ?_ (by first | exact LeS.le | exact LeS.add _ | (simp; done) | (simp; omega)) _)))), Nat.zero_le _, Own.nil _ _ _ _ _⟩
  have h2'' : (b.ht == 100) = false := by simpa using h2'
  clear h2 h2'
  rcases h3 : entsOk 1 s with _ | _
  · simp only [h3] at ks
    clear h1 h3 hin
    go_enter Try.func52, Try.ntmps52
    go_wp2_with (first | (go_at_call 37; refine (kb _ (HB.out.up (by repeat (first | (with_reducible exact Ext.refl _) | (with_reducible refine Ext.up ?_ _) | (with_reducible refine Ext.alloc ?_ _) | (with_reducible refine Ext.drew ?_) | (with_reducible refine Ext.setRow ?_ (by first | exact LeS.le | exact LeS.add _ | (simp; done) | (simp; omega)) _) | (with_reducible refine Ext.setCell ?_ (by first | exact LeS.le | exact LeS.add _ | (simp; done) | (simp; omega)) _))))).mono ?_; rintro e w' ⟨rfl, z1, rfl⟩) | (go_at_call 35; refine (ks _ (HS.out.up (by repeat (first | (with_reducible exact Ext.refl _) | (with_reducible refine Ext.up ?_ _) | (with_reducible refine Ext.alloc ?_ _) | (with_reducible refine Ext.drew ?_) | (with_reducible refine Ext.setRow ?_ (by first | exact LeS.le | exact LeS.add _ | (simp; done) | (simp; omega)) _) | (with_reducible refine Ext.setCell ?_ (by first | exact LeS.le | exact LeS.add _ | (simp; done) | (simp; omega)) _))))).mono ?_; rintro e w' ⟨rfl, z2, rfl⟩) | (go_at_call 36; (with_reducible refine (ki _).mono ?_); rintro e w' ⟨rfl, rfl⟩) | (go_at_call 65; refine (kl _ (HL.out.up (by repeat (first | (with_reducible exact Ext.refl _) | (with_reducible refine Ext.up ?_ _) | (with_reducible refine Ext.alloc ?_ _) | (with_reducible refine Ext.drew ?_) | (with_reducible refine Ext.setRow ?_ (by first | exact LeS.le | exact LeS.add _ | (simp; done) | (simp; omega)) _) | (with_reducible refine Ext.setCell ?_ (by first | exact LeS.le | exact LeS.add _ | (simp; done) | (simp; omega)) _))))).mono ?_; rintro e w' ⟨rfl, z3, rfl⟩))
    refine bodyPost_ret (v := .tuple #[.agg #[.int .i64 0, .int .i64 0, .int .i64 0, .slice none 0 0, .int .i64 0, .int .i64 0], .bool false]) (by simp [results, Try.results52, go_sem]) rfl ?_
    exact ⟨⟨0, 0, 0, 0, 0⟩, _, [], _, rfl, (.of (by repeat (first | (with_reducible exact Ext.refl _) | (with_reducible refine Ext.up ?_ _) | (with_reducible refine Ext.alloc ?_ _) | (with_reducible refine Ext.drew ?_) | (with_reducible refine Ext.setRow ?_ (by first | exact LeS.le | exact LeS.add _ | (simp; done) | (simp; omega)) _) | (with_reducible refine Ext.setCell ?_ (by first | exact LeS.le | exact LeS.add _ | (simp; done) | (simp; omega)) _)))), Nat.zero_le _, Own.nil _ _ _ _ _⟩
  simp only [h3] at ks
  rcases h4 : inR view (b.vw + 1) 1000 with _ | _
  · simp only [h4] at ki
    clear h1 h3 h4 hin
    go_enter Try.func52, Try.ntmps52
    go_wp2_with (first | (go_at_call 37; refine (kb _ (HB.out.up (by repeat (first | (with_reducible exact Ext.refl _) | (with_reducible refine Ext.up ?_ _) | (with_reducible refine Ext.alloc ?_ _) | (with_reducible refine Ext.drew ?_) | (with_reducible refine Ext.setRow ?_ (by first | exact LeS.le | exact LeS.add _ | (simp; done) | (simp; omega)) _) | (with_reducible refine Ext.setCell ?_ (by first | exact LeS.le | exact LeS.add _ | (simp; done) | (simp; omega)) _))))).mono ?_; rintro e w' ⟨rfl, z1, rfl⟩) | (go_at_call 35; refine (ks _ (HS.out.up (by repeat (first | (with_reducible exact Ext.refl _) | (with_reducible refine Ext.up ?_ _) | (with_reducible refine Ext.alloc ?_ _) | (with_reducible refine Ext.drew ?_) | (with_reducible refine Ext.setRow ?_ (by first | exact LeS.le | exact LeS.add _ | (simp; done) | (simp; omega)) _) | (with_reducible refine Ext.setCell ?_ (by first | exact LeS.le | exact LeS.add _ | (simp; done) | (simp; omega)) _))))).mono ?_; rintro e w' ⟨rfl, z2, rfl⟩) | (go_at_call 36; (with_reducible refine (ki _).mono ?_); rintro e w' ⟨rfl, rfl⟩) | (go_at_call 65; refine (kl _ (HL.out.up (by repeat (first | (with_reducible exact Ext.refl _) | (with_reducible refine Ext.up ?_ _) | (with_reducible refine Ext.alloc ?_ _) | (with_reducible refine Ext.drew ?_) | (with_reducible refine Ext.setRow ?_ (by first | exact LeS.le | exact LeS.add _ | (simp; done) | (simp; omega)) _) | (with_reducible refine Ext.setCell ?_ (by first | exact LeS.le | exact LeS.add _ | (simp; done) | (simp; omega)) _))))).mono ?_; rintro e w' ⟨rfl, z3, rfl⟩))
    refine bodyPost_ret (v := .tuple #[.agg #[.int .i64 0, .int .i64 0, .int .i64 0, .slice none 0 0, .int .i64 0, .int .i64 0], .bool false]) (by simp [results, Try.results52, go_sem]) rfl ?_
    exact ⟨⟨0, 0, 0, 0, 0⟩, _, [], _, rfl, (.of (by repeat (first | (with_reducible exact Ext.refl _) | (with_reducible refine Ext.up ?_ _) | (with_reducible refine Ext.alloc ?_ _) | (with_reducible refine Ext.drew ?_) | (with_reducible refine Ext.setRow ?_ (by first | exact LeS.le | exact LeS.add _ | (simp; done) | (simp; omega)) _) | (with_reducible refine Ext.setCell ?_ (by first | exact LeS.le | exact LeS.add _ | (simp; done) | (simp; omega)) _)))), Nat.zero_le _, Own.nil _ _ _ _ _⟩
  simp only [h4] at ki
  rcases h5 : actsOk l with _ | _
  · simp only [h5] at kl
    clear h1 h3 h4 h5 hin
    go_enter Try.func52, Try.ntmps52
    go_wp2_with (first | (go_at_call 37; refine (kb _ (HB.out.up (by repeat (first | (with_reducible exact Ext.refl _) | (with_reducible refine Ext.up ?_ _) | (with_reducible refine Ext.alloc ?_ _) | (with_reducible refine Ext.drew ?_) | (with_reducible refine Ext.setRow ?_ (by first | exact LeS.le | exact LeS.add _ | (simp; done) | (simp; omega)) _) | (with_reducible refine Ext.setCell ?_ (by first | exact LeS.le | exact LeS.add _ | (simp; done) | (simp; omega)) _))))).mono ?_; rintro e w' ⟨rfl, z1, rfl⟩) | (go_at_call 35; refine (ks _ (HS.out.up (by repeat (first | (with_reducible exact Ext.refl _) | (with_reducible refine Ext.up ?_ _) | (with_reducible refine Ext.alloc ?_ _) | (with_reducible refine Ext.drew ?_) | (with_reducible refine Ext.setRow ?_ (by first | exact LeS.le | exact LeS.add _ | (simp; done) | (simp; omega)) _) | (with_reducible refine Ext.setCell ?_ (by first | exact LeS.le | exact LeS.add _ | (simp; done) | (simp; omega)) _))))).mono ?_; rintro e w' ⟨rfl, z2, rfl⟩) | (go_at_call 36; (with_reducible refine (ki _).mono ?_); rintro e w' ⟨rfl, rfl⟩) | (go_at_call 65; refine (kl _ (HL.out.up (by repeat (first | (with_reducible exact Ext.refl _) | (with_reducible refine Ext.up ?_ _) | (with_reducible refine Ext.alloc ?_ _) | (with_reducible refine Ext.drew ?_) | (with_reducible refine Ext.setRow ?_ (by first | exact LeS.le | exact LeS.add _ | (simp; done) | (simp; omega)) _) | (with_reducible refine Ext.setCell ?_ (by first | exact LeS.le | exact LeS.add _ | (simp; done) | (simp; omega)) _))))).mono ?_; rintro e w' ⟨rfl, z3, rfl⟩))
    refine bodyPost_ret (v := .tuple #[.agg #[.int .i64 0, .int .i64 0, .int .i64 0, .slice none 0 0, .int .i64 0, .int .i64 0], .bool false]) (by simp [results, Try.results52, go_sem]) rfl ?_
    exact ⟨⟨0, 0, 0, 0, 0⟩, _, [], _, rfl, (.of (by repeat (first | (with_reducible exact Ext.refl _) | (with_reducible refine Ext.up ?_ _) | (with_reducible refine Ext.alloc ?_ _) | (with_reducible refine Ext.drew ?_) | (with_reducible refine Ext.setRow ?_ (by first | exact LeS.le | exact LeS.add _ | (simp; done) | (simp; omega)) _) | (with_reducible refine Ext.setCell ?_ (by first | exact LeS.le | exact LeS.add _ | (simp; done) | (simp; omega)) _)))), Nat.zero_le _, Own.nil _ _ _ _ _⟩
  simp only [h5] at kl
  have hlen := actsOk_len h5
  have hR := storeOf_ok (runAll_in (valsOf_in (entsOk_least (by decide) h3)) (l := l) (fun y hy => by obtain ⟨i, hi⟩ := List.getElem?_of_mem hy; exact actsOk_at h5 hi))
  have kr := fun w h h' => sRunSerial_yes s l (.slice ps s.length cs) (.slice pl l.length cl) w h h' h3 h5
  have hsm := runAll_small (valsOf s) l
  have hrl : (runAll (valsOf s) l).2.length ≤ 1000 := by rw [runAll_len]; omega
  generalize runAll (valsOf s) l = R at *
  have Hsm := Lib.hid hsm
  clear h1 h3 h4 h5 hin hR hsm
  go_enter Try.func52, Try.ntmps52
  go_wp2_with (first | (go_at_call 37; refine (kb _ (HB.out.up (by repeat (first | (with_reducible exact Ext.refl _) | (with_reducible refine Ext.up ?_ _) | (with_reducible refine Ext.alloc ?_ _) | (with_reducible refine Ext.drew ?_) | (with_reducible refine Ext.setRow ?_ (by first | exact LeS.le | exact LeS.add _ | (simp; done) | (simp; omega)) _) | (with_reducible refine Ext.setCell ?_ (by first | exact LeS.le | exact LeS.add _ | (simp; done) | (simp; omega)) _))))).mono ?_; rintro e w' ⟨rfl, z1, rfl⟩) | (go_at_call 35; refine (ks _ (HS.out.up (by repeat (first | (with_reducible exact Ext.refl _) | (with_reducible refine Ext.up ?_ _) | (with_reducible refine Ext.alloc ?_ _) | (with_reducible refine Ext.drew ?_) | (with_reducible refine Ext.setRow ?_ (by first | exact LeS.le | exact LeS.add _ | (simp; done) | (simp; omega)) _) | (with_reducible refine Ext.setCell ?_ (by first | exact LeS.le | exact LeS.add _ | (simp; done) | (simp; omega)) _))))).mono ?_; rintro e w' ⟨rfl, z2, rfl⟩) | (go_at_call 36; (with_reducible refine (ki _).mono ?_); rintro e w' ⟨rfl, rfl⟩) | (go_at_call 65; refine (kl _ (HL.out.up (by repeat (first | (with_reducible exact Ext.refl _) | (with_reducible refine Ext.up ?_ _) | (with_reducible refine Ext.alloc ?_ _) | (with_reducible refine Ext.drew ?_) | (with_reducible refine Ext.setRow ?_ (by first | exact LeS.le | exact LeS.add _ | (simp; done) | (simp; omega)) _) | (with_reducible refine Ext.setCell ?_ (by first | exact LeS.le | exact LeS.add _ | (simp; done) | (simp; omega)) _))))).mono ?_; rintro e w' ⟨rfl, z3, rfl⟩) | ((go_at_call 34; refine (kr _ (HS.out.up (by repeat (first | (with_reducible exact Ext.refl _) | (with_reducible refine Ext.up ?_ _) | (with_reducible refine Ext.alloc ?_ _) | (with_reducible refine Ext.drew ?_) | (with_reducible refine Ext.setRow ?_ (by first | exact LeS.le | exact LeS.add _ | (simp; done) | (simp; omega)) _) | (with_reducible refine Ext.setCell ?_ (by first | exact LeS.le | exact LeS.add _ | (simp; done) | (simp; omega)) _)))) (HL.out.up (by repeat (first | (with_reducible exact Ext.refl _) | (with_reducible refine Ext.up ?_ _) | (with_reducible refine Ext.alloc ?_ _) | (with_reducible refine Ext.drew ?_) | (with_reducible refine Ext.setRow ?_ (by first | exact LeS.le | exact LeS.add _ | (simp; done) | (simp; omega)) _) | (with_reducible refine Ext.setCell ?_ (by first | exact LeS.le | exact LeS.add _ | (simp; done) | (simp; omega)) _))))).mono ?_; rintro e w' ⟨v1, v2, ts, rfl, ⟨z4, rfl⟩, o1, o2, hts, _⟩); have O1 := Lib.hid (o1.sl Ent.enc_length); have O2 := Lib.hid (show SE z4.val v2 R.2 by rw [← hts]; exact o2.se); have HB4 := Lib.hid (HB.out.up (w' := z4.val) (by repeat (first | (with_reducible exact Ext.refl _) | (with_reducible refine Ext.up ?_ _) | (with_reducible refine Ext.alloc ?_ _) | (with_reducible refine Ext.drew ?_) | (with_reducible refine Ext.setRow ?_ (by first | exact LeS.le | exact LeS.add _ | (simp; done) | (simp; omega)) _) | (with_reducible refine Ext.setCell ?_ (by first | exact LeS.le | exact LeS.add _ | (simp; done) | (simp; omega)) _)))); have HL4 := Lib.hid (HL.out.up (w' := z4.val) (by repeat (first | (with_reducible exact Ext.refl _) | (with_reducible refine Ext.up ?_ _) | (with_reducible refine Ext.alloc ?_ _) | (with_reducible refine Ext.drew ?_) | (with_reducible refine Ext.setRow ?_ (by first | exact LeS.le | exact LeS.add _ | (simp; done) | (simp; omega)) _) | (with_reducible refine Ext.setCell ?_ (by first | exact LeS.le | exact LeS.add _ | (simp; done) | (simp; omega)) _)))); clear o1 o2 hts))
  clear kb ks ki kl kr HB HL HS
  (go_region_held3 (fun w' => (∀ n i, ∀ [LtS n (w.alloc (.cells #[.int .i64 b.bf, .int .i64 b.ht, .int .i64 b.vw, .slice pb bl.length cb, .int .i64 b.rt, .int .i64 b.ef] 39))], w'.cell? ⟨n, i, none⟩ = World.cell? (w.alloc (.cells #[.int .i64 b.bf, .int .i64 b.ht, .int .i64 b.vw, .slice pb bl.length cb, .int .i64 b.rt, .int .i64 b.ef] 39)) ⟨n, i, none⟩) ∧ Ext (w.alloc (.cells #[.int .i64 b.bf, .int .i64 b.ht, .int .i64 b.vw, .slice pb bl.length cb, .int .i64 b.rt, .int .i64 b.ef] 39)) w') ((refine S_of_ext ?_; (repeat (first | (with_reducible exact Ext.refl _) | (with_reducible refine Ext.up ?_ _) | (with_reducible refine Ext.alloc ?_ _) | (with_reducible refine Ext.drew ?_) | (with_reducible refine Ext.setRow ?_ (by first | exact LeS.le | exact LeS.add _ | (simp; done) | (simp; omega)) _) | (with_reducible refine Ext.setCell ?_ (by first | exact LeS.le | exact LeS.add _ | (simp; done) | (simp; omega)) _))); done)) (first | (go_at_call 39; refine (sBlockSum_any b bl _ _ (HB4.out.up (by repeat (first | (with_reducible exact Ext.refl _) | (with_reducible refine Ext.up ?_ _) | (with_reducible refine Ext.alloc ?_ _) | (with_reducible refine Ext.drew ?_) | (with_reducible refine Ext.setRow ?_ (by first | exact LeS.le | exact LeS.add _ | (simp; done) | (simp; omega)) _) | (with_reducible refine Ext.setCell ?_ (by first | exact LeS.le | exact LeS.add _ | (simp; done) | (simp; omega)) _))))).mono ?_; rintro e w' ⟨rfl, z5, rfl⟩) | (go_at_call 56; refine (sRootOf_any (storeOf R.1) _ _ (O1.out.up (by repeat (first | (with_reducible exact Ext.refl _) | (with_reducible refine Ext.up ?_ _) | (with_reducible refine Ext.alloc ?_ _) | (with_reducible refine Ext.drew ?_) | (with_reducible refine Ext.setRow ?_ (by first | exact LeS.le | exact LeS.add _ | (simp; done) | (simp; omega)) _) | (with_reducible refine Ext.setCell ?_ (by first | exact LeS.le | exact LeS.add _ | (simp; done) | (simp; omega)) _))))).mono ?_; rintro e w' ⟨rfl, z6, rfl⟩) | (go_at_call 57; refine (sEffectsSum_any R.2 _ _ (O2.out.up (by repeat (first | (with_reducible exact Ext.refl _) | (with_reducible refine Ext.up ?_ _) | (with_reducible refine Ext.alloc ?_ _) | (with_reducible refine Ext.drew ?_) | (with_reducible refine Ext.setRow ?_ (by first | exact LeS.le | exact LeS.add _ | (simp; done) | (simp; omega)) _) | (with_reducible refine Ext.setCell ?_ (by first | exact LeS.le | exact LeS.add _ | (simp; done) | (simp; omega)) _)))) hrl Hsm.out).mono ?_; rintro e w' ⟨rfl, z7, rfl⟩) | (refine step_clone fActn Actn.enc Actn.enc_length (lo := z4.val.heap.size) l (by rfl) (.tmp 51) (.tmp 52) (by rfl) (by rfl) (by rfl) (by repeat (first | (with_reducible exact heap_alloc_new _ _) | (with_reducible refine (Extd.row _ _).trans ?_) | (with_reducible refine (heap_alloc_old _ _ LtS.lt).trans ?_) | (with_reducible refine (drew_row _ _).trans ?_))) LeS.le (HL4.out.up (by repeat (first | (with_reducible exact Ext.refl _) | (with_reducible refine Ext.up ?_ _) | (with_reducible refine Ext.alloc ?_ _) | (with_reducible refine Ext.drew ?_) | (with_reducible refine Ext.setRow ?_ (by first | exact LeS.le | exact LeS.add _ | (simp; done) | (simp; omega)) _) | (with_reducible refine Ext.setCell ?_ (by first | exact LeS.le | exact LeS.add _ | (simp; done) | (simp; omega)) _)))) (oneAs _) (by omega) (by omega) ?_; intro v8 z8 o8 b8; obtain ⟨p8, c8, hv8, _, _⟩ := (o8.sl Actn.enc_length).openc; subst hv8; have O8 := Lib.hid o8; clear o8 b8) | fail))
  all_goals
    generalize bsum b bl = n1 at *
    generalize rootOf (storeOf R.1) = n2 at *
    generalize effsSum R.2 = n3 at *
    generalize b.ht + 1 = n4 at *
    clear O1 O2 HB4 HL4 Hsm
    go_wp2_with fail
    refine bodyPost_ret (v := .tuple #[.agg #[.int .i64 n1, .int .i64 n4, .int .i64 view, .slice p8 l.length c8, .int .i64 n2, .int .i64 n3], .bool true]) (by simp [results, Try.results52, go_sem]) rfl ?_
    refine ⟨⟨n1, n4, view, n2, n3⟩, _, l, _, rfl, (.of (by repeat (first | (with_reducible exact Ext.refl _) | (with_reducible refine Ext.up ?_ _) | (with_reducible refine Ext.alloc ?_ _) | (with_reducible refine Ext.drew ?_) | (with_reducible refine Ext.setRow ?_ (by first | exact LeS.le | exact LeS.add _ | (simp; done) | (simp; omega)) _) | (with_reducible refine Ext.setCell ?_ (by first | exact LeS.le | exact LeS.add _ | (simp; done) | (simp; omega)) _)))), Nat.le_refl _, ?_⟩
    have hz4 : w.heap.size + 1 + 1 ≤ z4.val.heap.size := by have h1 := z1.ext.size; have h2 := z2.ext.size; have h3 := z3.ext.size; have h4 := z4.ext.size; simp at h1 h2 h3 h4; omega
    refine Own.lo (lo := z4.val.heap.size) ?_ (by omega)
    repeat (first | (with_reducible exact O8.out) | (with_reducible refine Own.setLo ?_ (by omega)) | (with_reducible refine Own.up ?_ (Extd.ext _)) | (with_reducible refine Own.alloc ?_) | (exact O8.out))
end Go.Proofs.Yteiemjebdhmnaaa
namespace Go.Proofs.Yteiemjebdhmnaaa
open Go Go.RowKit Go.Proofs

set_option maxRecDepth 100000 in
set_option maxHeartbeats 4000000 in
theorem sStoreOf_weak (t : Tree) (v0 v1 v2 : Value) (n : Int) (w : World) (h : ST w v0 v1 v2 t) (hok : t.ok = true) (hn : hasN t n = true) :
    Calls Try.prog 10 #[.agg #[v0, v1, v2], .int .i64 n] w fun e w' => ∃ v' l, e = .returned v' ∧ Up w w' ∧ entsOk 1 l = true ∧ Own Ent.enc 61 2 w.heap.size w' v' l := by
  have H := Lib.hid h
  obtain ⟨p0, c0, rfl, _, _⟩ := h.base.openc
  obtain ⟨p1, c1, rfl, hl1, _, hc1⟩ := h.bs.open
  obtain ⟨p2, c2, rfl, hlp, _⟩ := h.pr.openc
  have HB := Lib.hid h.base
  clear h
  obtain ⟨_, _, hpl, hp0, _, hpn, hmem⟩ := path_all hok hn
  have hle := pathR_le t n
  have hbok : entsOk 1 t.base = true := (Tree.head_parts (Tree.ok_parts hok).1).1
  have hbl := entsOk_len hbok
  have Hmem := Lib.hid hmem; have Hok := Lib.hid hok; have Hb := Lib.hid hbok
  have hpos : 0 < (pathR t n).length := (List.getElem?_eq_some_iff.1 hp0).1
  clear hmem hok hp0 hpl hpn hbok
  go_enter Try.func10, Try.ntmps10
  go_wp2_with fail
  refine (sPathTo_any t _ _ _ n _ (H.out.up (by repeat (first | (with_reducible exact Ext.refl _) | (with_reducible refine Ext.up ?_ _) | (with_reducible refine Ext.alloc ?_ _) | (with_reducible refine Ext.drew ?_) | (with_reducible refine Ext.setRow ?_ (by first | exact LeS.le | exact LeS.add _ | (simp; done) | (simp; omega)) _) | (with_reducible refine Ext.setCell ?_ (by first | exact LeS.le | exact LeS.add _ | (simp; done) | (simp; omega)) _))))).mono ?_; rintro e w' ⟨v', rfl, ⟨z1, rfl⟩, hown⟩
  obtain ⟨p, c, rfl, hlen, hc⟩ := (hown.sl encI_length).open
  clear hown
  have hpos' : decide ((0 : Int) < ((pathR t n).length : Int)) = true := by simpa using hpos
  go_wp2_with (at_builtin; refine wpList_clone fEnt Ent.enc Ent.enc_length (lo := z1.val.heap.size) t.base rfl (.tmp 17) (.tmp 19) rfl rfl rfl (heap_alloc_new _ _) (Nat.le_refl _) (HB.out.up (by repeat (first | (with_reducible exact Ext.refl _) | (with_reducible refine Ext.up ?_ _) | (with_reducible refine Ext.alloc ?_ _) | (with_reducible refine Ext.drew ?_) | (with_reducible refine Ext.setRow ?_ (by first | exact LeS.le | exact LeS.add _ | (simp; done) | (simp; omega)) _) | (with_reducible refine Ext.setCell ?_ (by first | exact LeS.le | exact LeS.add _ | (simp; done) | (simp; omega)) _)))) (oneEs' _) (by omega) (by omega) ?_; intro v3 z3 o3 b3)
  have O3 := Lib.hid o3; clear o3 b3
  go_loopw [6, 7] (fun s6 s7 wr => ∃ (k : Nat) (l : List Ent), s7 = .int .i64 k ∧ k ≤ (pathR t n).length ∧ entsOk 1 l = true ∧ Up z1.val wr ∧ Own Ent.enc 61 2 z1.val.heap.size wr s6 l) (fun _ s7 _ => (pathR t n).length - (intOf s7).toNat)
  case atStart => exact ⟨0, t.base, rfl, Nat.zero_le _, Hb.out, (.of (by repeat (first | (with_reducible exact Ext.refl _) | (with_reducible refine Ext.up ?_ _) | (with_reducible refine Ext.alloc ?_ _) | (with_reducible refine Ext.drew ?_) | (with_reducible refine Ext.setRow ?_ (by first | exact LeS.le | exact LeS.add _ | (simp; done) | (simp; omega)) _) | (with_reducible refine Ext.setCell ?_ (by first | exact LeS.le | exact LeS.add _ | (simp; done) | (simp; omega)) _)))), O3.out⟩
  case round =>
    obtain ⟨k, l, rfl, hk, hlo, ⟨z, rfl⟩, hown⟩ := hrel
    have Hown := Lib.hid hown; have Hlo := Lib.hid hlo; clear hown hlo
    by_cases hlt : k < (pathR t n).length
    · obtain ⟨a, hak⟩ := getElem?_some_of_lt hlt
      obtain ⟨m, y, rfl, hym, _⟩ := Hmem.out a (List.mem_of_getElem? hak)
      obtain ⟨b, off, rfl, hb, hcc⟩ := hc k _ hak
      obtain ⟨b1, off1, q, d, rfl, hb1, _, _, _, e3, _, _, hx⟩ := hc1 m y hym
      have e0 : z1.val.cell? ⟨b, off + k, none⟩ = some (.int .i64 m) := by have := hcc 0 _ rfl; simpa using this
      have hml := (List.getElem?_eq_some_iff.1 hym).1
      have hya := Blk.okL_acts (newAt_ok hym (upTo_iff.1 (Tree.ok_parts Hok.out).2.2.1 m hml))
      have k0 : (0 : Int) ≤ (k : Int) := by omega
      have k1 : (k : Int) < (pathR t n).length := by omega
      have m0 : (0 : Int) ≤ (m : Int) := by omega
      have m1 : (m : Int) < t.bs.length := by omega
      have kr := fun v w h h' => sRunSerial_yes l y.2 v (.slice q y.2.length d) w h h' Hlo.out hya
      have hR := storeOf_ok (runAll_in (valsOf_in (entsOk_least (by decide) Hlo.out)) (l := y.2) (fun x hx => by obtain ⟨i, hi⟩ := List.getElem?_of_mem hx; exact actsOk_at hya hi))
      have HR := Lib.hid hR; have Hx := Lib.hid hx
      clear hc hc1 hcc hak hym hya hR hx
      go_wp2_with fail
      (go_region_held3 (fun w' => (∀ n i, ∀ [LtS n z.val], w'.cell? ⟨n, i, none⟩ = World.cell? z.val ⟨n, i, none⟩) ∧ Ext z.val w') ((refine S_of_ext ?_; (repeat (first | (with_reducible exact Ext.refl _) | (with_reducible refine Ext.up ?_ _) | (with_reducible refine Ext.alloc ?_ _) | (with_reducible refine Ext.drew ?_) | (with_reducible refine Ext.setRow ?_ (by first | exact LeS.le | exact LeS.add _ | (simp; done) | (simp; omega)) _) | (with_reducible refine Ext.setCell ?_ (by first | exact LeS.le | exact LeS.add _ | (simp; done) | (simp; omega)) _))); done)) ((go_at_call 34; refine (kr _ _ ((Hown.out.sl Ent.enc_length).up (by repeat (first | (with_reducible exact Ext.refl _) | (with_reducible refine Ext.up ?_ _) | (with_reducible refine Ext.alloc ?_ _) | (with_reducible refine Ext.drew ?_) | (with_reducible refine Ext.setRow ?_ (by first | exact LeS.le | exact LeS.add _ | (simp; done) | (simp; omega)) _) | (with_reducible refine Ext.setCell ?_ (by first | exact LeS.le | exact LeS.add _ | (simp; done) | (simp; omega)) _)))) (Hx.out.up (by repeat (first | (with_reducible exact Ext.refl _) | (with_reducible refine Ext.up ?_ _) | (with_reducible refine Ext.alloc ?_ _) | (with_reducible refine Ext.drew ?_) | (with_reducible refine Ext.setRow ?_ (by first | exact LeS.le | exact LeS.add _ | (simp; done) | (simp; omega)) _) | (with_reducible refine Ext.setCell ?_ (by first | exact LeS.le | exact LeS.add _ | (simp; done) | (simp; omega)) _))))).mono ?_; rintro e w' ⟨u1, u2, ts, rfl, ⟨z7, rfl⟩, o7, _, _, _⟩)))
      have O7 := Lib.hid o7; clear o7
      go_wp2_with fail
      go_roundw
      case rel => exact ⟨k + 1, _, by go_num, by omega, HR.out, (.of (by repeat (first | (with_reducible exact Ext.refl _) | (with_reducible refine Ext.up ?_ _) | (with_reducible refine Ext.alloc ?_ _) | (with_reducible refine Ext.drew ?_) | (with_reducible refine Ext.setRow ?_ (by first | exact LeS.le | exact LeS.add _ | (simp; done) | (simp; omega)) _) | (with_reducible refine Ext.setCell ?_ (by first | exact LeS.le | exact LeS.add _ | (simp; done) | (simp; omega)) _)))), O7.out.lo LeS.le⟩
      case measure => simp [intOf]; omega
    · clear hc hc1
      go_wp2_with fail
      go_ret
      exact ⟨_, l, rfl, (.of (by repeat (first | (with_reducible exact Ext.refl _) | (with_reducible refine Ext.up ?_ _) | (with_reducible refine Ext.alloc ?_ _) | (with_reducible refine Ext.drew ?_) | (with_reducible refine Ext.setRow ?_ (by first | exact LeS.le | exact LeS.add _ | (simp; done) | (simp; omega)) _) | (with_reducible refine Ext.setCell ?_ (by first | exact LeS.le | exact LeS.add _ | (simp; done) | (simp; omega)) _)))), Hlo.out, Hown.out.lo LeS.le⟩
end Go.Proofs.Yteiemjebdhmnaaa
namespace Go.Proofs.Yteiemjebdhmnaaa
open Go Go.RowKit Go.Proofs

set_option maxRecDepth 100000 in
set_option maxHeartbeats 8000000 in
theorem sGrowTree_weak (t : Tree) (v0 v1 v2 : Value) (n : Nat) (view : Int) (vl : Value) (l : List Actn) (w : World) (h : ST w v0 v1 v2 t) (hok : t.ok = true) (hn : n < t.bs.length) (hl : SL (RF Actn.enc) 4 w vl l) (hll : l.length ≤ 1000) :
    Calls Try.prog 78 #[.agg #[v0, v1, v2], .int .i64 n, .int .i64 view, vl] w fun e w' => ∃ (u0 u1 u2 : Value) (t' : Tree) (bs : List TB) (ok : Bool), e = .returned (.tuple #[.agg #[u0, u1, u2], .bool ok]) ∧ Up w w' ∧ t'.ok = true ∧ t.bs.length ≤ t'.bs.length ∧ bs.map TB.core = t'.bs ∧ OTA 61 39 85 3 w.heap.size w' u0 u1 u2 t'.base bs t'.pr := by
  have H := Lib.hid h; have HL := Lib.hid hl
  obtain ⟨p0, c0, rfl, _, _⟩ := h.base.openc
  obtain ⟨p1, c1, rfl, hl1, _, hc1⟩ := h.bs.open
  obtain ⟨p2, c2, rfl, _, _⟩ := h.pr.openc
  obtain ⟨pl, cl, rfl, _, _⟩ := hl.openc
  obtain ⟨k1, k2, k3, k4⟩ := Tree.bounds hok
  obtain ⟨y, hyn⟩ := getElem?_some_of_lt hn
  obtain ⟨b, off, p, c, rfl, hb', e0, e1, e2, e3, e4, e5, hx⟩ := hc1 n y hyn
  have kv := fun w h => sTreeValid_any t (.slice p0 t.base.length c0) (.slice (some ⟨b, off, none⟩) t.bs.length c1) (.slice p2 t.pr.length c2) w h
  simp only [hok] at kv
  have hin : inR (n : Int) 0 ((t.bs.length : Int) - 1) = true := inR_iff.2 (by omega)
  have ki := fun w => l1In_any (n : Int) 0 ((t.bs.length : Int) - 1) w
  simp only [hin] at ki
  have hnn : hasN t n = true := hin
  have kc := fun w h => sCopy_any t (.slice p0 t.base.length c0) (.slice (some ⟨b, off, none⟩) t.bs.length c1) (.slice p2 t.pr.length c2) w h (by omega) (by omega) (fun x hx => by have := k4 x hx; omega) (by omega)
  have ks := fun w h => sStoreOf_weak t (.slice p0 t.base.length c0) (.slice (some ⟨b, off, none⟩) t.bs.length c1) (.slice p2 t.pr.length c2) n w h hok hnn
  have kp := fun b' bl vb w h hb hbl => sPutBlock_weak t (.slice p0 t.base.length c0) (.slice (some ⟨b, off, none⟩) t.bs.length c1) (.slice p2 t.pr.length c2) b' bl vb w h hok hb hbl
  have hw1 : IntKind.i64.wrap ((t.bs.length : Int) - 1) = (t.bs.length : Int) - 1 := IntWalk.i64_in _ (by omega)
  have n0 : (0 : Int) ≤ (n : Int) := by omega
  have n1 : (n : Int) < t.bs.length := by omega
  have HX := Lib.hid hx; have Hok := Lib.hid hok
  clear h hl hc1 hx hok hyn hin hnn k4
  go_enter Try.func78, Try.ntmps78
  go_upto_region 5 with (first | (go_at_call 11; refine (kv _ (H.out.up (by repeat (first | (with_reducible exact Ext.refl _) | (with_reducible refine Ext.up ?_ _) | (with_reducible refine Ext.alloc ?_ _) | (with_reducible refine Ext.drew ?_) | (with_reducible refine Ext.setRow ?_ (by first | exact LeS.le | exact LeS.add _ | (simp; done) | (simp; omega)) _) | (with_reducible refine Ext.setCell ?_ (by first | exact LeS.le | exact LeS.add _ | (simp; done) | (simp; omega)) _))))).mono ?_; rintro e w' ⟨rfl, z1, rfl⟩) | (go_at_call 36; (with_reducible refine (ki _).mono ?_); rintro e w' ⟨rfl, rfl⟩))
  clear kv ki
  go_cut [10, 11] (fun s10 s11 wr => ∃ (Bx : Nat) (b' : Blk) (p4 : Option Addr) (c4 : Nat) (l' : List Actn) (ok : Bool), s10 = .pointer (some ⟨Bx, 0, none⟩) ∧ s11 = .bool ok ∧ LtS Bx wr ∧ Up ((w.alloc (.cells #[.slice p0 t.base.length c0, .slice (some ⟨b, off, none⟩) t.bs.length c1, .slice p2 t.pr.length c2] 27)).alloc (.cells #[.slice none 0 0, .slice none 0 0, .slice none 0 0] 27)) wr ∧ l'.length ≤ l.length ∧ SL (RF Actn.enc) 4 wr (.slice p4 l'.length c4) l' ∧ wr.cell? ⟨Bx, 0, none⟩ = some (.int .i64 b'.bf) ∧ wr.cell? ⟨Bx, 1, none⟩ = some (.int .i64 b'.ht) ∧ wr.cell? ⟨Bx, 2, none⟩ = some (.int .i64 b'.vw) ∧ wr.cell? ⟨Bx, 3, none⟩ = some (.slice p4 l'.length c4) ∧ wr.cell? ⟨Bx, 4, none⟩ = some (.int .i64 b'.rt) ∧ wr.cell? ⟨Bx, 5, none⟩ = some (.int .i64 b'.ef))
  case first =>
    (go_region_held3 (fun w' => (∀ n i, ∀ [LtS n ((w.alloc (.cells #[.slice p0 t.base.length c0, .slice (some ⟨b, off, none⟩) t.bs.length c1, .slice p2 t.pr.length c2] 27)).alloc (.cells #[.slice none 0 0, .slice none 0 0, .slice none 0 0] 27))], w'.cell? ⟨n, i, none⟩ = World.cell? ((w.alloc (.cells #[.slice p0 t.base.length c0, .slice (some ⟨b, off, none⟩) t.bs.length c1, .slice p2 t.pr.length c2] 27)).alloc (.cells #[.slice none 0 0, .slice none 0 0, .slice none 0 0] 27)) ⟨n, i, none⟩) ∧ Ext ((w.alloc (.cells #[.slice p0 t.base.length c0, .slice (some ⟨b, off, none⟩) t.bs.length c1, .slice p2 t.pr.length c2] 27)).alloc (.cells #[.slice none 0 0, .slice none 0 0, .slice none 0 0] 27)) w') ((refine S_of_ext ?_; (repeat (first | (with_reducible exact Ext.refl _) | (with_reducible refine Ext.up ?_ _) | (with_reducible refine Ext.alloc ?_ _) | (with_reducible refine Ext.drew ?_) | (with_reducible refine Ext.setRow ?_ (by first | exact LeS.le | exact LeS.add _ | (simp; done) | (simp; omega)) _) | (with_reducible refine Ext.setCell ?_ (by first | exact LeS.le | exact LeS.add _ | (simp; done) | (simp; omega)) _))); done)) (first | ((go_at_call 10; refine (ks _ (H.out.up (by repeat (first | (with_reducible exact Ext.refl _) | (with_reducible refine Ext.up ?_ _) | (with_reducible refine Ext.alloc ?_ _) | (with_reducible refine Ext.drew ?_) | (with_reducible refine Ext.setRow ?_ (by first | exact LeS.le | exact LeS.add _ | (simp; done) | (simp; omega)) _) | (with_reducible refine Ext.setCell ?_ (by first | exact LeS.le | exact LeS.add _ | (simp; done) | (simp; omega)) _))))).mono ?_; rintro e w' ⟨v3, s3, rfl, ⟨z3, rfl⟩, _, o3⟩); have S3 := Lib.hid (o3.sl Ent.enc_length); clear o3) | ((go_at_call 52; refine (sNextBlock_any y.1 y.2 (.slice p y.2.length c) v3 _ s3 l view _ (HX.out.up (by repeat (first | (with_reducible exact Ext.refl _) | (with_reducible refine Ext.up ?_ _) | (with_reducible refine Ext.alloc ?_ _) | (with_reducible refine Ext.drew ?_) | (with_reducible refine Ext.setRow ?_ (by first | exact LeS.le | exact LeS.add _ | (simp; done) | (simp; omega)) _) | (with_reducible refine Ext.setCell ?_ (by first | exact LeS.le | exact LeS.add _ | (simp; done) | (simp; omega)) _)))) (S3.out.up (by repeat (first | (with_reducible exact Ext.refl _) | (with_reducible refine Ext.up ?_ _) | (with_reducible refine Ext.alloc ?_ _) | (with_reducible refine Ext.drew ?_) | (with_reducible refine Ext.setRow ?_ (by first | exact LeS.le | exact LeS.add _ | (simp; done) | (simp; omega)) _) | (with_reducible refine Ext.setCell ?_ (by first | exact LeS.le | exact LeS.add _ | (simp; done) | (simp; omega)) _)))) (HL.out.up (by repeat (first | (with_reducible exact Ext.refl _) | (with_reducible refine Ext.up ?_ _) | (with_reducible refine Ext.alloc ?_ _) | (with_reducible refine Ext.drew ?_) | (with_reducible refine Ext.setRow ?_ (by first | exact LeS.le | exact LeS.add _ | (simp; done) | (simp; omega)) _) | (with_reducible refine Ext.setCell ?_ (by first | exact LeS.le | exact LeS.add _ | (simp; done) | (simp; omega)) _))))).mono ?_; rintro e w' ⟨b', v4, l', ok, rfl, ⟨z4, rfl⟩, hll', o4⟩); obtain ⟨p4, c4, hv4, _, _⟩ := (o4.sl Actn.enc_length).openc; subst hv4; have hN4 := Own.ne_out o4; have S4 := Lib.hid (o4.lo (Nat.zero_le _)); clear o4) | fail))
    all_goals go_wp2_with fail
    all_goals go_meet
    all_goals
      have h1 := z1.ext.size
      have h3 := z3.ext.size
      have h4 := z4.ext.size
      simp [setCell_sz] at h1 h3 h4
      have hn3 : NeS w.heap.size z3.val.heap.size := ⟨by omega⟩
      refine ⟨_, b', p4, c4, l', ok, rfl, rfl, by infer_instance, (.of (by repeat (first | (with_reducible exact Ext.refl _) | (with_reducible refine Ext.up ?_ _) | (with_reducible refine Ext.alloc ?_ _) | (with_reducible refine Ext.drew ?_) | (with_reducible refine Ext.setRow ?_ (by first | exact LeS.le | exact LeS.add _ | (simp; done) | (simp; omega)) _) | (with_reducible refine Ext.setCell ?_ (by first | exact LeS.le | exact LeS.add _ | (simp; done) | (simp; omega)) _)))), hll', (by refine Own.sl (lo := 0) (e := 85) Actn.enc_length ?_; (repeat (with_reducible refine Own.setApart ?_ _ _ (.inr (hN4 _ (.inl (by (try simp) <;> omega)))))); first | (with_reducible exact S4.out) | (with_reducible refine Own.alloc ?_; with_reducible exact S4.out)), by go_simp, by go_simp, by go_simp, by go_simp, by go_simp, by go_simp⟩
  case rest =>
    obtain ⟨Bx, b', p4, c4, l', ok, rfl, rfl, hLB, ⟨z9, rfl⟩, hll', hs4, x0, x1, x2, x3, x4, x5⟩ := hcut
    have S4 := Lib.hid hs4
    have h9 := z9.ext.size
    simp at h9
    clear ks hs4
    rcases ok with _ | _
    · go_wp2_with fail
      refine (kc _ (H.out.up (by repeat (first | (with_reducible exact Ext.refl _) | (with_reducible refine Ext.up ?_ _) | (with_reducible refine Ext.alloc ?_ _) | (with_reducible refine Ext.drew ?_) | (with_reducible refine Ext.setRow ?_ (by first | exact LeS.le | exact LeS.add _ | (simp; done) | (simp; omega)) _) | (with_reducible refine Ext.setCell ?_ (by first | exact LeS.le | exact LeS.add _ | (simp; done) | (simp; omega)) _))))).mono ?_; rintro e w' ⟨y0, y1, y2, bs', rfl, ⟨z11, rfl⟩, hm', ot'⟩
      obtain ⟨g0, h0, rfl, _, _⟩ := (ot'.obase.sl Ent.enc_length).openc
      obtain ⟨g1, h1, rfl, _, _⟩ := (ot'.obs.1.sl TB.enc_length).openc
      obtain ⟨g2, h2, rfl, _, _⟩ := (ot'.opr.sl encI_length).openc
      have OT' := Lib.hid ot'; have Hm' := Lib.hid hm'; clear ot' hm'
      go_wp2_with fail
      have r0 : z11.val.cell? ⟨w.heap.size + 1, 0, none⟩ = some (.slice none 0 0) := by go_simp
      have r1 : z11.val.cell? ⟨w.heap.size + 1, 1, none⟩ = some (.slice none 0 0) := by go_simp
      have r2 : z11.val.cell? ⟨w.heap.size + 1, 2, none⟩ = some (.slice none 0 0) := by go_simp
      refine bodyPost_ret (v := .tuple #[.agg #[.slice g0 t.base.length h0, .slice g1 bs'.length h1, .slice g2 t.pr.length h2], .bool false]) (by simp [results, Try.results78, go_sem, r0, r1, r2]) rfl ?_
      refine ⟨_, _, _, t, bs', false, rfl, (.of (by repeat (first | (with_reducible exact Ext.refl _) | (with_reducible refine Ext.up ?_ _) | (with_reducible refine Ext.alloc ?_ _) | (with_reducible refine Ext.drew ?_) | (with_reducible refine Ext.setRow ?_ (by first | exact LeS.le | exact LeS.add _ | (simp; done) | (simp; omega)) _) | (with_reducible refine Ext.setCell ?_ (by first | exact LeS.le | exact LeS.add _ | (simp; done) | (simp; omega)) _)))), Hok.out, Nat.le_refl _, Hm'.out, ?_⟩
      exact (((OT'.out.setOld _ _ (by show w.heap.size + 1 < _; (try simp [setCell_sz]) <;> omega)).setOld _ _ (by show w.heap.size + 1 < _; (try simp [setCell_sz]) <;> omega)).setOld _ _ (by show w.heap.size + 1 < _; (try simp [setCell_sz]) <;> omega)).lo (by (try simp [setCell_sz]) <;> omega)
    · go_wp2_with fail
      refine (kp b' l' (.slice p4 l'.length c4) _ (H.out.up (by repeat (first | (with_reducible exact Ext.refl _) | (with_reducible refine Ext.up ?_ _) | (with_reducible refine Ext.alloc ?_ _) | (with_reducible refine Ext.drew ?_) | (with_reducible refine Ext.setRow ?_ (by first | exact LeS.le | exact LeS.add _ | (simp; done) | (simp; omega)) _) | (with_reducible refine Ext.setCell ?_ (by first | exact LeS.le | exact LeS.add _ | (simp; done) | (simp; omega)) _)))) (S4.out.up (by repeat (first | (with_reducible exact Ext.refl _) | (with_reducible refine Ext.up ?_ _) | (with_reducible refine Ext.alloc ?_ _) | (with_reducible refine Ext.drew ?_) | (with_reducible refine Ext.setRow ?_ (by first | exact LeS.le | exact LeS.add _ | (simp; done) | (simp; omega)) _) | (with_reducible refine Ext.setCell ?_ (by first | exact LeS.le | exact LeS.add _ | (simp; done) | (simp; omega)) _)))) (by omega)).mono ?_; rintro e w' ⟨y0, y1, y2, t', bs', ok', rfl, ⟨z11, rfl⟩, htk, hlen, hm', ot'⟩
      obtain ⟨g0, h0, rfl, _, _⟩ := (ot'.obase.sl Ent.enc_length).openc
      obtain ⟨g1, h1, rfl, _, _⟩ := (ot'.obs.1.sl TB.enc_length).openc
      obtain ⟨g2, h2, rfl, _, _⟩ := (ot'.opr.sl encI_length).openc
      have OT' := Lib.hid ot'; have Hm' := Lib.hid hm'; have Htk := Lib.hid htk; clear ot' hm' htk
      go_wp2_with fail
      have r0 : z11.val.cell? ⟨w.heap.size + 1, 0, none⟩ = some (.slice none 0 0) := by go_simp
      have r1 : z11.val.cell? ⟨w.heap.size + 1, 1, none⟩ = some (.slice none 0 0) := by go_simp
      have r2 : z11.val.cell? ⟨w.heap.size + 1, 2, none⟩ = some (.slice none 0 0) := by go_simp
      refine bodyPost_ret (v := .tuple #[.agg #[.slice g0 t'.base.length h0, .slice g1 bs'.length h1, .slice g2 t'.pr.length h2], .bool ok']) (by simp [results, Try.results78, go_sem, r0, r1, r2]) rfl ?_
      refine ⟨_, _, _, t', bs', ok', rfl, (.of (by repeat (first | (with_reducible exact Ext.refl _) | (with_reducible refine Ext.up ?_ _) | (with_reducible refine Ext.alloc ?_ _) | (with_reducible refine Ext.drew ?_) | (with_reducible refine Ext.setRow ?_ (by first | exact LeS.le | exact LeS.add _ | (simp; done) | (simp; omega)) _) | (with_reducible refine Ext.setCell ?_ (by first | exact LeS.le | exact LeS.add _ | (simp; done) | (simp; omega)) _)))), Htk.out, hlen, Hm'.out, ?_⟩
      exact (((OT'.out.setOld _ _ (by show w.heap.size + 1 < _; (try simp [setCell_sz]) <;> omega)).setOld _ _ (by show w.heap.size + 1 < _; (try simp [setCell_sz]) <;> omega)).setOld _ _ (by show w.heap.size + 1 < _; (try simp [setCell_sz]) <;> omega)).lo (by (try simp [setCell_sz]) <;> omega)
end Go.Proofs.Yteiemjebdhmnaaa
