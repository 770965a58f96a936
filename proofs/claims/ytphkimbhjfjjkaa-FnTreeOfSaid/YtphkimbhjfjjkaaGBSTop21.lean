/- Walks: next blocks, stores of trees: the reference's side. Walks: stores of trees: the reference's side (a weak contract). -/
import Derived.Test.YtphkimbhjfjjkaaGBSTop20
import Derived.Test.YtphkimbhjfjjkaaGBSTop15
import Derived.Test.YtphkimbhjfjjkaaGBSTop10
import Derived.Test.YtphkimbhjfjjkaaGBSTop16
set_option linter.unusedSimpArgs false
set_option linter.unusedVariables false
namespace Go.Proofs.Ytphkimbhjfjjkaa
open Go Go.RowKit Go.Proofs

theorem runE_wlen (x : Actn) (f t : Int) : (runE x f t).w.length ≤ 2 := by
  unfold runE
  dsimp only
  split
  · unfold Actn.wrs sort2
    repeat' split
    all_goals simp
  · simp
theorem runAll_small (v : List Int) (l : List Actn) : ∀ x ∈ (runAll v l).2, x.r.length ≤ 1000 ∧ x.w.length ≤ 1000 := by
  have key : ∀ (l : List Actn) (p : List Int × List Eff), (∀ x ∈ p.2, x.r.length ≤ 1000 ∧ x.w.length ≤ 1000) → ∀ x ∈ (l.foldl runStep p).2, x.r.length ≤ 1000 ∧ x.w.length ≤ 1000 := by
    intro l
    induction l with
    | nil => intro p h; exact h
    | cons y l ih =>
      intro p h
      refine ih _ fun x hx => ?_
      rcases List.mem_append.1 (show x ∈ p.2 ++ [runV p.1 y] from hx) with hx | hx
      · exact h x hx
      · rw [List.mem_singleton] at hx; subst hx
        have h1 := runE_rlen y (p.1.getD y.src.toNat 0) (p.1.getD y.dst.toNat 0)
        have h2 := runE_wlen y (p.1.getD y.src.toNat 0) (p.1.getD y.dst.toNat 0)
        exact ⟨Nat.le_trans h1 (by omega), Nat.le_trans h2 (by omega)⟩
  exact key l (v, []) (by simp)
set_option maxRecDepth 100000 in
set_option maxHeartbeats 30000000 in
theorem sNextBlock_any (b : Blk) (bl : List Actn) (vb vs vl : Value) (s : List Ent) (l : List Actn) (view : Int) (w : World) (hb : SL (RF Actn.enc) 4 w vb bl) (hs : SL (RF Ent.enc) 2 w vs s) (hl : SL (RF Actn.enc) 4 w vl l) :
    Calls Try.prog 111 #[.agg #[.int .i64 b.bf, .int .i64 b.ht, .int .i64 b.vw, vb, .int .i64 b.rt, .int .i64 b.ef], vs, .int .i64 view, vl] w fun e w' => ∃ (b' : Blk) (v' : Value) (l' : List Actn) (ok : Bool), e = .returned (.tuple #[.agg #[.int .i64 b'.bf, .int .i64 b'.ht, .int .i64 b'.vw, v', .int .i64 b'.rt, .int .i64 b'.ef], .bool ok]) ∧ Up w w' ∧ l'.length ≤ l.length ∧ Own Actn.enc 71 4 w.heap.size w' v' l' := by
  have HB := Lib.hid hb; have HS := Lib.hid hs; have HL := Lib.hid hl
  obtain ⟨pb, cb, rfl, _, _⟩ := hb.openc
  obtain ⟨ps, cs, rfl, _, _⟩ := hs.openc
  obtain ⟨pl, cl, rfl, _, _⟩ := hl.openc
  have kb := fun w h => sBlockValid_any b bl (.slice pb bl.length cb) w h
  have ks := fun w h => sStoreValid_any s (.slice ps s.length cs) w h
  have ki := fun w => l1In_any view (b.vw + 1) 1000 w
  have kl := fun w h => sActionsValid_any l (.slice pl l.length cl) w h
  clear hb hs hl
  rcases h1 : b.okL bl with _ | _
  · simp only [h1] at kb
    clear h1 ki ks kl
    go_enter Try.func111, Try.ntmps111
    go_wp2_with (first | (go_at_call 34; refine (kb _ (HB.out.up (by repeat (first | (with_reducible exact Ext.refl _) | (with_reducible refine Ext.up ?_ _) | (with_reducible refine Ext.alloc ?_ _) | (with_reducible refine Ext.drew ?_) | (with_reducible refine Ext.setRow ?_ (by first | exact LeS.le | exact LeS.add _ | (simp; done) | (simp; omega)) _) | (with_reducible refine Ext.setCell ?_ (by first | exact LeS.le | exact LeS.add _ | (simp; done) | (simp; omega)) _))))).mono ?_; rintro e w' ⟨rfl, z1, rfl⟩) | (go_at_call 19; refine (ks _ (HS.out.up (by repeat (first | (with_reducible exact Ext.refl _) | (with_reducible refine Ext.up ?_ _) | (with_reducible refine Ext.alloc ?_ _) | (with_reducible refine Ext.drew ?_) | (with_reducible refine Ext.setRow ?_ (by first | exact LeS.le | exact LeS.add _ | (simp; done) | (simp; omega)) _) | (with_reducible refine Ext.setCell ?_ (by first | exact LeS.le | exact LeS.add _ | (simp; done) | (simp; omega)) _))))).mono ?_; rintro e w' ⟨rfl, z2, rfl⟩) | (go_at_call 64; (with_reducible refine (ki _).mono ?_); rintro e w' ⟨rfl, rfl⟩) | (go_at_call 80; refine (kl _ (HL.out.up (by repeat (first | (with_reducible exact Ext.refl _) | (with_reducible refine Ext.up ?_ _) | (with_reducible refine Ext.alloc ?_ _) | (with_reducible refine Ext.drew ?_) | (with_reducible refine Ext.setRow ?_ (by first | exact LeS.le | exact LeS.add _ | (simp; done) | (simp; omega)) _) | (with_reducible refine Ext.setCell ?_ (by first | exact LeS.le | exact LeS.add _ | (simp; done) | (simp; omega)) _))))).mono ?_; rintro e w' ⟨rfl, z3, rfl⟩))
    refine bodyPost_ret (v := .tuple #[.agg #[.int .i64 0, .int .i64 0, .int .i64 0, .slice none 0 0, .int .i64 0, .int .i64 0], .bool false]) (by simp [results, Try.results111, go_sem]) rfl ?_
    exact ⟨⟨0, 0, 0, 0, 0⟩, _, [], _, rfl, (.of (by repeat (first | (with_reducible exact Ext.refl _) | (with_reducible refine Ext.up ?_ _) | (with_reducible refine Ext.alloc ?_ _) | (with_reducible refine Ext.drew ?_) | (with_reducible refine Ext.setRow ?_ (by first | exact LeS.le | exact LeS.add _ | (simp; done) | (simp; omega)) _) | (with_reducible refine Ext.setCell ?_ (by first | exact LeS.le | exact LeS.add _ | (simp; done) | (simp; omega)) _)))), Nat.zero_le _, Own.nil _ _ _ _ _⟩
  simp only [h1] at kb
  have hin := Blk.okL_in h1
  have hw1 : IntKind.i64.wrap (b.vw + 1) = b.vw + 1 := IntWalk.i64_in _ (by omega)
  have hw2 : IntKind.i64.wrap (b.ht + 1) = b.ht + 1 := IntWalk.i64_in _ (by omega)
  rcases ne_cases b.ht 100 with ⟨h2, h2'⟩ | ⟨h2, h2'⟩
  rotate_left
  · clear h1 hin h2
    have h2'' : (b.ht == 100) = true := by simpa using h2'
    clear ki ks kl
    go_enter Try.func111, Try.ntmps111
    go_wp2_with (first | (go_at_call 34; refine (kb _ (HB.out.up (by repeat (first | (with_reducible exact Ext.refl _) | (with_reducible refine Ext.up ?_ _) | (with_reducible refine Ext.alloc ?_ _) | (with_reducible refine Ext.drew ?_) | (with_reducible refine Ext.setRow ?_ (by first | exact LeS.le | exact LeS.add _ | (simp; done) | (simp; omega)) _) | (with_reducible refine Ext.setCell ?_ (by first | exact LeS.le | exact LeS.add _ | (simp; done) | (simp; omega)) _))))).mono ?_; rintro e w' ⟨rfl, z1, rfl⟩) | (go_at_call 19; refine (ks _ (HS.out.up (by repeat (first | (with_reducible exact Ext.refl _) | (with_reducible refine Ext.up ?_ _) | (with_reducible refine Ext.alloc ?_ _) | (with_reducible refine Ext.drew ?_) | (with_reducible refine Ext.setRow ?_ (by first | exact LeS.le | exact LeS.add _ | (simp; done) | (simp; omega)) _) | (with_reducible refine Ext.setCell ?_ (by first | exact LeS.le | exact LeS.add _ | (simp; done) | (simp; omega)) _))))).mono ?_; rintro e w' ⟨rfl, z2, rfl⟩) | (go_at_call 64; (with_reducible refine (ki _).mono ?_); rintro e w' ⟨rfl, rfl⟩) | (go_at_call 80; refine (kl _ (HL.out.up (by repeat (first | (with_reducible exact Ext.refl _) | (with_reducible refine Ext.up ?_ _) | (with_reducible refine Ext.alloc ?_ _) | (with_reducible refine Ext.drew ?_) | (with_reducible refine Ext.setRow ?_ (by first | exact LeS.le | exact LeS.add _ | (simp; done) | (simp; omega)) _) | (with_reducible refine Ext.setCell ?_ (by first | exact LeS.le | exact LeS.add _ | (simp; done) | (simp; omega)) _))))).mono ?_; rintro e w' ⟨rfl, z3, rfl⟩))
    refine bodyPost_ret (v := .tuple #[.agg #[.int .i64 0, .int .i64 0, .int .i64 0, .slice none 0 0, .int .i64 0, .int .i64 0], .bool false]) (by simp [results, Try.results111, go_sem]) rfl ?_
    exact ⟨⟨0, 0, 0, 0, 0⟩, _, [], _, rfl, (.of (by repeat (first | (with_reducible exact Ext.refl _) | (with_reducible refine Ext.up ?_ _) | (with_reducible refine Ext.alloc ?_ _) | (with_reducible refine Ext.drew ?_) | (with_reducible refine Ext.setRow ?_ (by first | exact LeS.le | exact LeS.add _ | (simp; done) | (simp; omega)) _) | (with_reducible refine Ext.setCell ?_ (by first | exact LeS.le | exact LeS.add _ | (simp; done) | (simp; omega)) _)))), Nat.zero_le _, Own.nil _ _ _ _ _⟩
  have h2'' : (b.ht == 100) = false := by simpa using h2'
  clear h2 h2'
  rcases h3 : entsOk 1 s with _ | _
  · simp only [h3] at ks
    clear h1 h3 hin
    go_enter Try.func111, Try.ntmps111
    go_wp2_with (first | (go_at_call 34; refine (kb _ (HB.out.up (by repeat (first | (with_reducible exact Ext.refl _) | (with_reducible refine Ext.up ?_ _) | (with_reducible refine Ext.alloc ?_ _) | (with_reducible refine Ext.drew ?_) | (with_reducible refine Ext.setRow ?_ (by first | exact LeS.le | exact LeS.add _ | (simp; done) | (simp; omega)) _) | (with_reducible refine Ext.setCell ?_ (by first | exact LeS.le | exact LeS.add _ | (simp; done) | (simp; omega)) _))))).mono ?_; rintro e w' ⟨rfl, z1, rfl⟩) | (go_at_call 19; refine (ks _ (HS.out.up (by repeat (first | (with_reducible exact Ext.refl _) | (with_reducible refine Ext.up ?_ _) | (with_reducible refine Ext.alloc ?_ _) | (with_reducible refine Ext.drew ?_) | (with_reducible refine Ext.setRow ?_ (by first | exact LeS.le | exact LeS.add _ | (simp; done) | (simp; omega)) _) | (with_reducible refine Ext.setCell ?_ (by first | exact LeS.le | exact LeS.add _ | (simp; done) | (simp; omega)) _))))).mono ?_; rintro e w' ⟨rfl, z2, rfl⟩) | (go_at_call 64; (with_reducible refine (ki _).mono ?_); rintro e w' ⟨rfl, rfl⟩) | (go_at_call 80; refine (kl _ (HL.out.up (by repeat (first | (with_reducible exact Ext.refl _) | (with_reducible refine Ext.up ?_ _) | (with_reducible refine Ext.alloc ?_ _) | (with_reducible refine Ext.drew ?_) | (with_reducible refine Ext.setRow ?_ (by first | exact LeS.le | exact LeS.add _ | (simp; done) | (simp; omega)) _) | (with_reducible refine Ext.setCell ?_ (by first | exact LeS.le | exact LeS.add _ | (simp; done) | (simp; omega)) _))))).mono ?_; rintro e w' ⟨rfl, z3, rfl⟩))
    refine bodyPost_ret (v := .tuple #[.agg #[.int .i64 0, .int .i64 0, .int .i64 0, .slice none 0 0, .int .i64 0, .int .i64 0], .bool false]) (by simp [results, Try.results111, go_sem]) rfl ?_
    exact ⟨⟨0, 0, 0, 0, 0⟩, _, [], _, rfl, (.of (by repeat (first | (with_reducible exact Ext.refl _) | (with_reducible refine Ext.up ?_ _) | (with_reducible refine Ext.alloc ?_ _) | (with_reducible refine Ext.drew ?_) | (with_reducible refine Ext.setRow ?_ (by first | exact LeS.le | exact LeS.add _ | (simp; done) | (simp; omega)) _) | (with_reducible refine Ext.setCell ?_ (by first | exact LeS.le | exact LeS.add _ | (simp; done) | (simp; omega)) _)))), Nat.zero_le _, Own.nil _ _ _ _ _⟩
  simp only [h3] at ks
  rcases h4 : inR view (b.vw + 1) 1000 with _ | _
  · simp only [h4] at ki
    clear h1 h3 h4 hin
    go_enter Try.func111, Try.ntmps111
    go_wp2_with (first | (go_at_call 34; refine (kb _ (HB.out.up (by repeat (first | (with_reducible exact Ext.refl _) | (with_reducible refine Ext.up ?_ _) | (with_reducible refine Ext.alloc ?_ _) | (with_reducible refine Ext.drew ?_) | (with_reducible refine Ext.setRow ?_ (by first | exact LeS.le | exact LeS.add _ | (simp; done) | (simp; omega)) _) | (with_reducible refine Ext.setCell ?_ (by first | exact LeS.le | exact LeS.add _ | (simp; done) | (simp; omega)) _))))).mono ?_; rintro e w' ⟨rfl, z1, rfl⟩) | (go_at_call 19; refine (ks _ (HS.out.up (by repeat (first | (with_reducible exact Ext.refl _) | (with_reducible refine Ext.up ?_ _) | (with_reducible refine Ext.alloc ?_ _) | (with_reducible refine Ext.drew ?_) | (with_reducible refine Ext.setRow ?_ (by first | exact LeS.le | exact LeS.add _ | (simp; done) | (simp; omega)) _) | (with_reducible refine Ext.setCell ?_ (by first | exact LeS.le | exact LeS.add _ | (simp; done) | (simp; omega)) _))))).mono ?_; rintro e w' ⟨rfl, z2, rfl⟩) | (go_at_call 64; (with_reducible refine (ki _).mono ?_); rintro e w' ⟨rfl, rfl⟩) | (go_at_call 80; refine (kl _ (HL.out.up (by repeat (first | (with_reducible exact Ext.refl _) | (with_reducible refine Ext.up ?_ _) | (with_reducible refine Ext.alloc ?_ _) | (with_reducible refine Ext.drew ?_) | (with_reducible refine Ext.setRow ?_ (by first | exact LeS.le | exact LeS.add _ | (simp; done) | (simp; omega)) _) | (with_reducible refine Ext.setCell ?_ (by first | exact LeS.le | exact LeS.add _ | (simp; done) | (simp; omega)) _))))).mono ?_; rintro e w' ⟨rfl, z3, rfl⟩))
    refine bodyPost_ret (v := .tuple #[.agg #[.int .i64 0, .int .i64 0, .int .i64 0, .slice none 0 0, .int .i64 0, .int .i64 0], .bool false]) (by simp [results, Try.results111, go_sem]) rfl ?_
    exact ⟨⟨0, 0, 0, 0, 0⟩, _, [], _, rfl, (.of (by repeat (first | (with_reducible exact Ext.refl _) | (with_reducible refine Ext.up ?_ _) | (with_reducible refine Ext.alloc ?_ _) | (with_reducible refine Ext.drew ?_) | (with_reducible refine Ext.setRow ?_ (by first | exact LeS.le | exact LeS.add _ | (simp; done) | (simp; omega)) _) | (with_reducible refine Ext.setCell ?_ (by first | exact LeS.le | exact LeS.add _ | (simp; done) | (simp; omega)) _)))), Nat.zero_le _, Own.nil _ _ _ _ _⟩
  simp only [h4] at ki
  rcases h5 : actsOk l with _ | _
  · simp only [h5] at kl
    clear h1 h3 h4 h5 hin
    go_enter Try.func111, Try.ntmps111
    go_wp2_with (first | (go_at_call 34; refine (kb _ (HB.out.up (by repeat (first | (with_reducible exact Ext.refl _) | (with_reducible refine Ext.up ?_ _) | (with_reducible refine Ext.alloc ?_ _) | (with_reducible refine Ext.drew ?_) | (with_reducible refine Ext.setRow ?_ (by first | exact LeS.le | exact LeS.add _ | (simp; done) | (simp; omega)) _) | (with_reducible refine Ext.setCell ?_ (by first | exact LeS.le | exact LeS.add _ | (simp; done) | (simp; omega)) _))))).mono ?_; rintro e w' ⟨rfl, z1, rfl⟩) | (go_at_call 19; refine (ks _ (HS.out.up (by repeat (first | (with_reducible exact Ext.refl _) | (with_reducible refine Ext.up ?_ _) | (with_reducible refine Ext.alloc ?_ _) | (with_reducible refine Ext.drew ?_) | (with_reducible refine Ext.setRow ?_ (by first | exact LeS.le | exact LeS.add _ | (simp; done) | (simp; omega)) _) | (with_reducible refine Ext.setCell ?_ (by first | exact LeS.le | exact LeS.add _ | (simp; done) | (simp; omega)) _))))).mono ?_; rintro e w' ⟨rfl, z2, rfl⟩) | (go_at_call 64; (with_reducible refine (ki _).mono ?_); rintro e w' ⟨rfl, rfl⟩) | (go_at_call 80; refine (kl _ (HL.out.up (by repeat (first | (with_reducible exact Ext.refl _) | (with_reducible refine Ext.up ?_ _) | (with_reducible refine Ext.alloc ?_ _) | (with_reducible refine Ext.drew ?_) | (with_reducible refine Ext.setRow ?_ (by first | exact LeS.le | exact LeS.add _ | (simp; done) | (simp; omega)) _) | (with_reducible refine Ext.setCell ?_ (by first | exact LeS.le | exact LeS.add _ | (simp; done) | (simp; omega)) _))))).mono ?_; rintro e w' ⟨rfl, z3, rfl⟩))
    refine bodyPost_ret (v := .tuple #[.agg #[.int .i64 0, .int .i64 0, .int .i64 0, .slice none 0 0, .int .i64 0, .int .i64 0], .bool false]) (by simp [results, Try.results111, go_sem]) rfl ?_
    exact ⟨⟨0, 0, 0, 0, 0⟩, _, [], _, rfl, (.of (by repeat (first | (with_reducible exact Ext.refl _) | (with_reducible refine Ext.up ?_ _) | (with_reducible refine Ext.alloc ?_ _) | (with_reducible refine Ext.drew ?_) | (with_reducible refine Ext.setRow ?_ (by first | exact LeS.le | exact LeS.add _ | (simp; done) | (simp; omega)) _) | (with_reducible refine Ext.setCell ?_ (by first | exact LeS.le | exact LeS.add _ | (simp; done) | (simp; omega)) _)))), Nat.zero_le _, Own.nil _ _ _ _ _⟩
  simp only [h5] at kl
  have hlen := actsOk_len h5
  have hR := storeOf_ok (runAll_in (valsOf_in (entsOk_least (by decide) h3)) (l := l) (fun y hy => by obtain ⟨i, hi⟩ := List.getElem?_of_mem hy; exact actsOk_at h5 hi))
  have kr := fun w h h' => sRunSerial_yes s l (.slice ps s.length cs) (.slice pl l.length cl) w h h' h3 h5
  have hsm := runAll_small (valsOf s) l
  have hrl : (runAll (valsOf s) l).2.length ≤ 1000 := by rw [runAll_len]; omega
  generalize runAll (valsOf s) l = R at *
  have Hsm := Lib.hid hsm
  clear h1 h3 h4 h5 hin hR hsm
  go_enter Try.func111, Try.ntmps111
  go_wp2_with (first | (go_at_call 34; refine (kb _ (HB.out.up (by repeat (first | (with_reducible exact Ext.refl _) | (with_reducible refine Ext.up ?_ _) | (with_reducible refine Ext.alloc ?_ _) | (with_reducible refine Ext.drew ?_) | (with_reducible refine Ext.setRow ?_ (by first | exact LeS.le | exact LeS.add _ | (simp; done) | (simp; omega)) _) | (with_reducible refine Ext.setCell ?_ (by first | exact LeS.le | exact LeS.add _ | (simp; done) | (simp; omega)) _))))).mono ?_; rintro e w' ⟨rfl, z1, rfl⟩) | (go_at_call 19; refine (ks _ (HS.out.up (by repeat (first | (with_reducible exact Ext.refl _) | (with_reducible refine Ext.up ?_ _) | (with_reducible refine Ext.alloc ?_ _) | (with_reducible refine Ext.drew ?_) | (with_reducible refine Ext.setRow ?_ (by first | exact LeS.le | exact LeS.add _ | (simp; done) | (simp; omega)) _) | (with_reducible refine Ext.setCell ?_ (by first | exact LeS.le | exact LeS.add _ | (simp; done) | (simp; omega)) _))))).mono ?_; rintro e w' ⟨rfl, z2, rfl⟩) | (go_at_call 64; (with_reducible refine (ki _).mono ?_); rintro e w' ⟨rfl, rfl⟩) | (go_at_call 80; refine (kl _ (HL.out.up (by repeat (first | (with_reducible exact Ext.refl _) | (with_reducible refine Ext.up ?_ _) | (with_reducible refine Ext.alloc ?_ _) | (with_reducible refine Ext.drew ?_) | (with_reducible refine Ext.setRow ?_ (by first | exact LeS.le | exact LeS.add _ | (simp; done) | (simp; omega)) _) | (with_reducible refine Ext.setCell ?_ (by first | exact LeS.le | exact LeS.add _ | (simp; done) | (simp; omega)) _))))).mono ?_; rintro e w' ⟨rfl, z3, rfl⟩) | ((go_at_call 134; refine (kr _ (HS.out.up (by repeat (first | (with_reducible exact Ext.refl _) | (with_reducible refine Ext.up ?_ _) | (with_reducible refine Ext.alloc ?_ _) | (with_reducible refine Ext.drew ?_) | (with_reducible refine Ext.setRow ?_ (by first | exact LeS.le | exact LeS.add _ | (simp; done) | (simp; omega)) _) | (with_reducible refine Ext.setCell ?_ (by first | exact LeS.le | exact LeS.add _ | (simp; done) | (simp; omega)) _)))) (HL.out.up (by repeat (first | (with_reducible exact Ext.refl _) | (with_reducible refine Ext.up ?_ _) | (with_reducible refine Ext.alloc ?_ _) | (with_reducible refine Ext.drew ?_) | (with_reducible refine Ext.setRow ?_ (by first | exact LeS.le | exact LeS.add _ | (simp; done) | (simp; omega)) _) | (with_reducible refine Ext.setCell ?_ (by first | exact LeS.le | exact LeS.add _ | (simp; done) | (simp; omega)) _))))).mono ?_; rintro e w' ⟨v1, v2, ts, rfl, ⟨z4, rfl⟩, o1, o2, hts, _⟩); have O1 := Lib.hid (o1.sl Ent.enc_length); have O2 := Lib.hid (show SE z4.val v2 R.2 by rw [← hts]; exact o2.se); have HB4 := Lib.hid (HB.out.up (w' := z4.val) (by repeat (first | (with_reducible exact Ext.refl _) | (with_reducible refine Ext.up ?_ _) | (with_reducible refine Ext.alloc ?_ _) | (with_reducible refine Ext.drew ?_) | (with_reducible refine Ext.setRow ?_ (by first | exact LeS.le | exact LeS.add _ | (simp; done) | (simp; omega)) _) | (with_reducible refine Ext.setCell ?_ (by first | exact LeS.le | exact LeS.add _ | (simp; done) | (simp; omega)) _)))); have HL4 := Lib.hid (HL.out.up (w' := z4.val) (by repeat (first | (with_reducible exact Ext.refl _) | (with_reducible refine Ext.up ?_ _) | (with_reducible refine Ext.alloc ?_ _) | (with_reducible refine Ext.drew ?_) | (with_reducible refine Ext.setRow ?_ (by first | exact LeS.le | exact LeS.add _ | (simp; done) | (simp; omega)) _) | (with_reducible refine Ext.setCell ?_ (by first | exact LeS.le | exact LeS.add _ | (simp; done) | (simp; omega)) _)))); clear o1 o2 hts))
  clear kb ks ki kl kr HB HL HS
  (go_region_held3 (fun w' => (∀ n i, ∀ [LtS n (w.alloc (.cells #[.int .i64 b.bf, .int .i64 b.ht, .int .i64 b.vw, .slice pb bl.length cb, .int .i64 b.rt, .int .i64 b.ef] 27))], w'.cell? ⟨n, i, none⟩ = World.cell? (w.alloc (.cells #[.int .i64 b.bf, .int .i64 b.ht, .int .i64 b.vw, .slice pb bl.length cb, .int .i64 b.rt, .int .i64 b.ef] 27)) ⟨n, i, none⟩) ∧ Ext (w.alloc (.cells #[.int .i64 b.bf, .int .i64 b.ht, .int .i64 b.vw, .slice pb bl.length cb, .int .i64 b.rt, .int .i64 b.ef] 27)) w') ((refine S_of_ext ?_; (repeat (first | (with_reducible exact Ext.refl _) | (with_reducible refine Ext.up ?_ _) | (with_reducible refine Ext.alloc ?_ _) | (with_reducible refine Ext.drew ?_) | (with_reducible refine Ext.setRow ?_ (by first | exact LeS.le | exact LeS.add _ | (simp; done) | (simp; omega)) _) | (with_reducible refine Ext.setCell ?_ (by first | exact LeS.le | exact LeS.add _ | (simp; done) | (simp; omega)) _))); done)) (first | (go_at_call 38; refine (sBlockSum_any b bl _ _ (HB4.out.up (by repeat (first | (with_reducible exact Ext.refl _) | (with_reducible refine Ext.up ?_ _) | (with_reducible refine Ext.alloc ?_ _) | (with_reducible refine Ext.drew ?_) | (with_reducible refine Ext.setRow ?_ (by first | exact LeS.le | exact LeS.add _ | (simp; done) | (simp; omega)) _) | (with_reducible refine Ext.setCell ?_ (by first | exact LeS.le | exact LeS.add _ | (simp; done) | (simp; omega)) _))))).mono ?_; rintro e w' ⟨rfl, z5, rfl⟩) | (go_at_call 62; refine (sRootOf_any (storeOf R.1) _ _ (O1.out.up (by repeat (first | (with_reducible exact Ext.refl _) | (with_reducible refine Ext.up ?_ _) | (with_reducible refine Ext.alloc ?_ _) | (with_reducible refine Ext.drew ?_) | (with_reducible refine Ext.setRow ?_ (by first | exact LeS.le | exact LeS.add _ | (simp; done) | (simp; omega)) _) | (with_reducible refine Ext.setCell ?_ (by first | exact LeS.le | exact LeS.add _ | (simp; done) | (simp; omega)) _))))).mono ?_; rintro e w' ⟨rfl, z6, rfl⟩) | (go_at_call 63; refine (sEffectsSum_any R.2 _ _ (O2.out.up (by repeat (first | (with_reducible exact Ext.refl _) | (with_reducible refine Ext.up ?_ _) | (with_reducible refine Ext.alloc ?_ _) | (with_reducible refine Ext.drew ?_) | (with_reducible refine Ext.setRow ?_ (by first | exact LeS.le | exact LeS.add _ | (simp; done) | (simp; omega)) _) | (with_reducible refine Ext.setCell ?_ (by first | exact LeS.le | exact LeS.add _ | (simp; done) | (simp; omega)) _)))) hrl Hsm.out).mono ?_; rintro e w' ⟨rfl, z7, rfl⟩) | (refine step_clone fActn Actn.enc Actn.enc_length (lo := z4.val.heap.size) l (by rfl) (.tmp 51) (.tmp 52) (by rfl) (by rfl) (by rfl) (by repeat (first | (with_reducible exact heap_alloc_new _ _) | (with_reducible refine (Extd.row _ _).trans ?_) | (with_reducible refine (heap_alloc_old _ _ LtS.lt).trans ?_) | (with_reducible refine (drew_row _ _).trans ?_))) LeS.le (HL4.out.up (by repeat (first | (with_reducible exact Ext.refl _) | (with_reducible refine Ext.up ?_ _) | (with_reducible refine Ext.alloc ?_ _) | (with_reducible refine Ext.drew ?_) | (with_reducible refine Ext.setRow ?_ (by first | exact LeS.le | exact LeS.add _ | (simp; done) | (simp; omega)) _) | (with_reducible refine Ext.setCell ?_ (by first | exact LeS.le | exact LeS.add _ | (simp; done) | (simp; omega)) _)))) (oneAs _) (by omega) (by omega) ?_; intro v8 z8 o8 b8; obtain ⟨p8, c8, hv8, _, _⟩ := (o8.sl Actn.enc_length).openc; subst hv8; have O8 := Lib.hid o8; clear o8 b8) | fail))
  all_goals
    generalize bsum b bl = n1 at *
    generalize rootOf (storeOf R.1) = n2 at *
    generalize effsSum R.2 = n3 at *
    generalize b.ht + 1 = n4 at *
    clear O1 O2 HB4 HL4 Hsm
    go_wp2_with fail
    refine bodyPost_ret (v := .tuple #[.agg #[.int .i64 n1, .int .i64 n4, .int .i64 view, .slice p8 l.length c8, .int .i64 n2, .int .i64 n3], .bool true]) (by simp [results, Try.results111, go_sem]) rfl ?_
    refine ⟨⟨n1, n4, view, n2, n3⟩, _, l, _, rfl, (.of (by repeat (first | (with_reducible exact Ext.refl _) | (with_reducible refine Ext.up ?_ _) | (with_reducible refine Ext.alloc ?_ _) | (with_reducible refine Ext.drew ?_) | (with_reducible refine Ext.setRow ?_ (by first | exact LeS.le | exact LeS.add _ | (simp; done) | (simp; omega)) _) | (with_reducible refine Ext.setCell ?_ (by first | exact LeS.le | exact LeS.add _ | (simp; done) | (simp; omega)) _)))), Nat.le_refl _, ?_⟩
    have hz4 : w.heap.size + 1 + 1 ≤ z4.val.heap.size := by have h1 := z1.ext.size; have h2 := z2.ext.size; have h3 := z3.ext.size; have h4 := z4.ext.size; simp at h1 h2 h3 h4; omega
    refine Own.lo (lo := z4.val.heap.size) ?_ (by omega)
    repeat (first | (with_reducible exact O8.out) | (with_reducible refine Own.setLo ?_ (by omega)) | (with_reducible refine Own.up ?_ (Extd.ext _)) | (with_reducible refine Own.alloc ?_) | (exact O8.out))
end Go.Proofs.Ytphkimbhjfjjkaa
namespace Go.Proofs.Ytphkimbhjfjjkaa
open Go Go.RowKit Go.Proofs

set_option maxRecDepth 100000 in
set_option maxHeartbeats 4000000 in
theorem sStoreOf_weak (t : Tree) (v0 v1 v2 : Value) (n : Int) (w : World) (h : ST w v0 v1 v2 t) (hok : t.ok = true) (hn : hasN t n = true) :
    Calls Try.prog 112 #[.agg #[v0, v1, v2], .int .i64 n] w fun e w' => ∃ v' l, e = .returned v' ∧ Up w w' ∧ entsOk 1 l = true ∧ Own Ent.enc 75 2 w.heap.size w' v' l := by
  have H := Lib.hid h
  obtain ⟨p0, c0, rfl, _, _⟩ := h.base.openc
  obtain ⟨p1, c1, rfl, hl1, _, hc1⟩ := h.bs.open
  obtain ⟨p2, c2, rfl, hlp, _⟩ := h.pr.openc
  have HB := Lib.hid h.base
  clear h
  obtain ⟨_, _, hpl, hp0, _, hpn, hmem⟩ := path_all hok hn
  have hle := pathR_le t n
  have hbok : entsOk 1 t.base = true := (Tree.head_parts (Tree.ok_parts hok).1).1
  have hbl := entsOk_len hbok
  have Hmem := Lib.hid hmem; have Hok := Lib.hid hok; have Hb := Lib.hid hbok
  have hpos : 0 < (pathR t n).length := (List.getElem?_eq_some_iff.1 hp0).1
  clear hmem hok hp0 hpl hpn hbok
  go_enter Try.func112, Try.ntmps112
  go_wp2_with fail
  refine (sPathTo_any t _ _ _ n _ (H.out.up (by repeat (first | (with_reducible exact Ext.refl _) | (with_reducible refine Ext.up ?_ _) | (with_reducible refine Ext.alloc ?_ _) | (with_reducible refine Ext.drew ?_) | (with_reducible refine Ext.setRow ?_ (by first | exact LeS.le | exact LeS.add _ | (simp; done) | (simp; omega)) _) | (with_reducible refine Ext.setCell ?_ (by first | exact LeS.le | exact LeS.add _ | (simp; done) | (simp; omega)) _))))).mono ?_; rintro e w' ⟨v', rfl, ⟨z1, rfl⟩, hown⟩
  obtain ⟨p, c, rfl, hlen, hc⟩ := (hown.sl encI_length).open
  clear hown
  have hpos' : decide ((0 : Int) < ((pathR t n).length : Int)) = true := by simpa using hpos
  go_wp2_with (at_builtin; refine wpList_clone fEnt Ent.enc Ent.enc_length (lo := z1.val.heap.size) t.base rfl (.tmp 17) (.tmp 19) rfl rfl rfl (heap_alloc_new _ _) (Nat.le_refl _) (HB.out.up (by repeat (first | (with_reducible exact Ext.refl _) | (with_reducible refine Ext.up ?_ _) | (with_reducible refine Ext.alloc ?_ _) | (with_reducible refine Ext.drew ?_) | (with_reducible refine Ext.setRow ?_ (by first | exact LeS.le | exact LeS.add _ | (simp; done) | (simp; omega)) _) | (with_reducible refine Ext.setCell ?_ (by first | exact LeS.le | exact LeS.add _ | (simp; done) | (simp; omega)) _)))) (oneEs' _) (by omega) (by omega) ?_; intro v3 z3 o3 b3)
  have O3 := Lib.hid o3; clear o3 b3
  go_loopw [6, 7] (fun s6 s7 wr => ∃ (k : Nat) (l : List Ent), s7 = .int .i64 k ∧ k ≤ (pathR t n).length ∧ entsOk 1 l = true ∧ Up z1.val wr ∧ Own Ent.enc 75 2 z1.val.heap.size wr s6 l) (fun _ s7 _ => (pathR t n).length - (intOf s7).toNat)
  case atStart => exact ⟨0, t.base, rfl, Nat.zero_le _, Hb.out, (.of (by repeat (first | (with_reducible exact Ext.refl _) | (with_reducible refine Ext.up ?_ _) | (with_reducible refine Ext.alloc ?_ _) | (with_reducible refine Ext.drew ?_) | (with_reducible refine Ext.setRow ?_ (by first | exact LeS.le | exact LeS.add _ | (simp; done) | (simp; omega)) _) | (with_reducible refine Ext.setCell ?_ (by first | exact LeS.le | exact LeS.add _ | (simp; done) | (simp; omega)) _)))), O3.out⟩
  case round =>
    obtain ⟨k, l, rfl, hk, hlo, ⟨z, rfl⟩, hown⟩ := hrel
    have Hown := Lib.hid hown; have Hlo := Lib.hid hlo; clear hown hlo
    by_cases hlt : k < (pathR t n).length
    · obtain ⟨a, hak⟩ := getElem?_some_of_lt hlt
      obtain ⟨m, y, rfl, hym, _⟩ := Hmem.out a (List.mem_of_getElem? hak)
      obtain ⟨b, off, rfl, hb, hcc⟩ := hc k _ hak
      obtain ⟨b1, off1, q, d, rfl, hb1, _, _, _, e3, _, _, hx⟩ := hc1 m y hym
      have e0 : z1.val.cell? ⟨b, off + k, none⟩ = some (.int .i64 m) := by have := hcc 0 _ rfl; simpa using this
      have hml := (List.getElem?_eq_some_iff.1 hym).1
      have hya := Blk.okL_acts (newAt_ok hym (upTo_iff.1 (Tree.ok_parts Hok.out).2.2.1 m hml))
      have k0 : (0 : Int) ≤ (k : Int) := by omega
      have k1 : (k : Int) < (pathR t n).length := by omega
      have m0 : (0 : Int) ≤ (m : Int) := by omega
      have m1 : (m : Int) < t.bs.length := by omega
      have kr := fun v w h h' => sRunSerial_yes l y.2 v (.slice q y.2.length d) w h h' Hlo.out hya
      have hR := storeOf_ok (runAll_in (valsOf_in (entsOk_least (by decide) Hlo.out)) (l := y.2) (fun x hx => by obtain ⟨i, hi⟩ := List.getElem?_of_mem hx; exact actsOk_at hya hi))
      have HR := Lib.hid hR; have Hx := Lib.hid hx
      clear hc hc1 hcc hak hym hya hR hx
      go_wp2_with fail
      (go_region_held3 (fun w' => (∀ n i, ∀ [LtS n z.val], w'.cell? ⟨n, i, none⟩ = World.cell? z.val ⟨n, i, none⟩) ∧ Ext z.val w') ((refine S_of_ext ?_; (repeat (first | (with_reducible exact Ext.refl _) | (with_reducible refine Ext.up ?_ _) | (with_reducible refine Ext.alloc ?_ _) | (with_reducible refine Ext.drew ?_) | (with_reducible refine Ext.setRow ?_ (by first | exact LeS.le | exact LeS.add _ | (simp; done) | (simp; omega)) _) | (with_reducible refine Ext.setCell ?_ (by first | exact LeS.le | exact LeS.add _ | (simp; done) | (simp; omega)) _))); done)) ((go_at_call 134; refine (kr _ _ ((Hown.out.sl Ent.enc_length).up (by repeat (first | (with_reducible exact Ext.refl _) | (with_reducible refine Ext.up ?_ _) | (with_reducible refine Ext.alloc ?_ _) | (with_reducible refine Ext.drew ?_) | (with_reducible refine Ext.setRow ?_ (by first | exact LeS.le | exact LeS.add _ | (simp; done) | (simp; omega)) _) | (with_reducible refine Ext.setCell ?_ (by first | exact LeS.le | exact LeS.add _ | (simp; done) | (simp; omega)) _)))) (Hx.out.up (by repeat (first | (with_reducible exact Ext.refl _) | (with_reducible refine Ext.up ?_ _) | (with_reducible refine Ext.alloc ?_ _) | (with_reducible refine Ext.drew ?_) | (with_reducible refine Ext.setRow ?_ (by first | exact LeS.le | exact LeS.add _ | (simp; done) | (simp; omega)) _) | (with_reducible refine Ext.setCell ?_ (by first | exact LeS.le | exact LeS.add _ | (simp; done) | (simp; omega)) _))))).mono ?_; rintro e w' ⟨u1, u2, ts, rfl, ⟨z7, rfl⟩, o7, _, _, _⟩)))
      have O7 := Lib.hid o7; clear o7
      go_wp2_with fail
      go_roundw
      case rel => exact ⟨k + 1, _, by go_num, by omega, HR.out, (.of (by repeat (first | (with_reducible exact Ext.refl _) | (with_reducible refine Ext.up ?_ _) | (with_reducible refine Ext.alloc ?_ _) | (with_reducible refine Ext.drew ?_) | (with_reducible refine Ext.setRow ?_ (by first | exact LeS.le | exact LeS.add _ | (simp; done) | (simp; omega)) _) | (with_reducible refine Ext.setCell ?_ (by first | exact LeS.le | exact LeS.add _ | (simp; done) | (simp; omega)) _)))), O7.out.lo LeS.le⟩
      case measure => simp [intOf]; omega
    · clear hc hc1
      go_wp2_with fail
      go_ret
      exact ⟨_, l, rfl, (.of (by repeat (first | (with_reducible exact Ext.refl _) | (with_reducible refine Ext.up ?_ _) | (with_reducible refine Ext.alloc ?_ _) | (with_reducible refine Ext.drew ?_) | (with_reducible refine Ext.setRow ?_ (by first | exact LeS.le | exact LeS.add _ | (simp; done) | (simp; omega)) _) | (with_reducible refine Ext.setCell ?_ (by first | exact LeS.le | exact LeS.add _ | (simp; done) | (simp; omega)) _)))), Hlo.out, Hown.out.lo LeS.le⟩
end Go.Proofs.Ytphkimbhjfjjkaa
