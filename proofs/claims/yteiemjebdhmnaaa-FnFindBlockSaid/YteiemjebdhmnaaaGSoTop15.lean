/- Walks: first blocks, blocks that are compared. Walks: blocks that are compared with the first one. Walks: blocks that are found by their sums. -/
import Derived.Test.YteiemjebdhmnaaaGSoTop05
import Derived.Test.YteiemjebdhmnaaaGSoTop04
import Derived.Test.YteiemjebdhmnaaaGSoTop14
import Derived.Test.YteiemjebdhmnaaaGSoTop08
set_option linter.unusedSimpArgs false
set_option linter.unusedVariables false
namespace Go.Proofs.Yteiemjebdhmnaaa
open Go Go.RowKit Go.Proofs

set_option maxHeartbeats 1000000 in
theorem sSumOf_any (tag : Int) (l : List Int) (v : Value) (w : World) (h : SL (RF encI) 1 w v l) :
    Calls Try.prog 89 #[.int .i64 tag, v] w fun e w' => e = .returned (.int .i64 (sumOf tag l)) ∧ w = w' := by
  have H := Lib.hid h
  obtain ⟨p, cap, rfl, hlen, hc⟩ := h.open
  clear h
  go_enter Try.func89, Try.ntmps89
  go_wp2_with fail
  go_loop [5] (fun s5 => ∃ k : Nat, s5 = .int .i64 k ∧ k ≤ l.length ∧ (l.take k).all (fun n => inR n 0 2000000) = true) (fun s5 => l.length - (intOf s5).toNat)
  case atStart => exact ⟨0, rfl, Nat.zero_le _, rfl⟩
  case round =>
    obtain ⟨k, rfl, hk, hall⟩ := hrel
    by_cases hlt : k < l.length
    · obtain ⟨x, hxk⟩ := getElem?_some_of_lt hlt
      obtain ⟨b, off, rfl, hb, hcc⟩ := hc k x hxk
      have c0 : w.cell? ⟨b, off + k, none⟩ = some (.int .i64 x) := by have := hcc 0 _ rfl; simpa using this
      have k0 : (0 : Int) ≤ (k : Int) := by omega
      have Hx := Lib.hid hxk; have Hall := Lib.hid hall
      clear hc hcc hxk hall
      have kq := fun w => l1In_any x 0 2000000 w
      rcases hq : inR x 0 2000000 with _ | _
      · rw [hq] at kq
        go_wp2_with (go_at_call 36; refine (kq _).mono ?_; rintro e w' ⟨rfl, rfl⟩)
        go_ret
        refine ⟨?_, rfl⟩
        have hs : summed l = false := List.all_eq_false.2 ⟨x, List.mem_of_getElem? Hx.out, by rw [hq]; simp⟩
        rw [sumOf_no hs]; rfl
      · rw [hq] at kq
        go_wp2_with (go_at_call 36; refine (kq _).mono ?_; rintro e w' ⟨rfl, rfl⟩)
        go_round
        case rel => exact ⟨k + 1, by go_num, by omega, by rw [List.take_add_one, Hx.out, List.all_append, Hall.out]; simp [hq]⟩
        case measure => simp [intOf]; omega
    · obtain rfl : k = l.length := by omega
      rw [List.take_length] at hall
      have hs : summed l = true := hall
      have Hs := Lib.hid hs; clear hall hs
      rcases ht : inR tag 0 9 with _ | _
      · go_wp2_with (go_at_call 36; refine (l1In_any _ _ _ _).mono ?_; rintro e w' ⟨rfl, rfl⟩)
        go_ret
        exact ⟨by rw [sumOf_tag ht]; rfl, rfl⟩
      · obtain ⟨t0, t9⟩ := inR_iff.1 ht
        go_wp2_with (first | (go_at_call 36; refine (l1In_any _ _ _ _).mono ?_; rintro e w' ⟨rfl, rfl⟩) | (go_at_call 68; refine (l1Sum_any tag l _ _ H.out t0 t9 Hs.out).mono ?_; rintro e w' ⟨rfl, rfl⟩))
        go_ret
        exact ⟨by rw [sumOf_yes t0 t9 Hs.out]; rfl, rfl⟩
theorem sumOf4_nil : sumOf 4 [] = 21 := rfl
theorem iEffectsSum_nil (w : World) : Calls Try.prog 22 #[.slice none 0 0] w fun e w' => e = .returned (.int .i64 21) ∧ Up w w' := by
  go_enter Try.func22, Try.ntmps22
  go_wp2
  refine wp_loop_rounds 1 ?_; rw [rounds_succ]
  go_wp2_with (go_at_call 42; refine (sumOf_any 4 [] _ _ (SL.nil _ _ _ _ _)).mono ?_; rintro e w' ⟨rfl, z, rfl⟩)
  go_ret
  exact ⟨rfl, (.of (by repeat (first | exact Ext.refl _ | refine Ext.up ?_ _ | refine Ext.alloc ?_ _ | refine Ext.drew ?_ | refine Ext.setRow ?_ (by first | (dsimp only; omega) | exact LeS.le | exact LeS.add _ | (simp; done) | (simp; omega)) _ | refine Ext.setCell ?_ (by first | (dsimp only; omega) | exact LeS.le | exact LeS.add _ | (simp; done) | (simp; omega)) _)))⟩
theorem sEffectsSum_nil (a : Option Addr) (c : Nat) (w : World) : Calls Try.prog 57 #[.slice a 0 c] w fun e w' => e = .returned (.int .i64 21) ∧ Up w w' := by
  go_enter Try.func57, Try.ntmps57
  go_wp2
  refine wp_loop_rounds 1 ?_; rw [rounds_succ]
  go_wp2_with (go_at_call 89; refine (sSumOf_any 4 [] _ _ (SL.nil _ _ _ _ _)).mono ?_; rintro e w' ⟨rfl, rfl⟩)
  go_ret
  exact ⟨rfl, (.of (by repeat (first | exact Ext.refl _ | refine Ext.up ?_ _ | refine Ext.alloc ?_ _ | refine Ext.drew ?_ | refine Ext.setRow ?_ (by first | (dsimp only; omega) | exact LeS.le | exact LeS.add _ | (simp; done) | (simp; omega)) _ | refine Ext.setCell ?_ (by first | (dsimp only; omega) | exact LeS.le | exact LeS.add _ | (simp; done) | (simp; omega)) _)))⟩
def Blk.agg (b : Blk) (v : Value) : Value := .agg #[.int .i64 b.bf, .int .i64 b.ht, .int .i64 b.vw, v, .int .i64 b.rt, .int .i64 b.ef]
theorem iFirstBlock_any (s : List Ent) (v : Value) (w : World) (h : SL (RF Ent.enc) 2 w v s) :
    Calls Try.prog 62 #[v] w fun e w' => e = .returned ((firstB s).agg (.slice none 0 0)) ∧ Up w w' := by
  have H := Lib.hid h; clear h
  rcases hok : entsOk 1 s with _ | _
  · have kv := fun w v h => iStoreValid_any s v w h
    rw [hok] at kv
    rw [firstB_no hok]
    go_enter Try.func62, Try.ntmps62
    go_wp2_with (go_at_call 14; refine (kv _ _ (H.out.up (by repeat (first | exact Ext.refl _ | refine Ext.up ?_ _ | refine Ext.alloc ?_ _ | refine Ext.drew ?_ | refine Ext.setRow ?_ (by first | (dsimp only; omega) | exact LeS.le | exact LeS.add _ | (simp; done) | (simp; omega)) _ | refine Ext.setCell ?_ (by first | (dsimp only; omega) | exact LeS.le | exact LeS.add _ | (simp; done) | (simp; omega)) _)))).mono ?_; rintro e w' ⟨rfl, z, rfl⟩)
    refine bodyPost_ret (v := .agg #[.int .i64 0, .int .i64 0, .int .i64 0, .slice none 0 0, .int .i64 0, .int .i64 0]) (by simp [results, Try.results62, go_sem]) rfl ?_
    refine ⟨rfl, .of ?_⟩
    repeat (first | (with_reducible refine Ext.setCell ?_ (by first | exact LeS.le | (simp; done) | (simp; omega)) _) | (with_reducible refine Ext.up ?_ _) | (with_reducible refine Ext.alloc ?_ _) | (with_reducible exact Ext.refl _))
  · have kv := fun w v h => iStoreValid_any s v w h
    rw [hok] at kv
    rw [firstB_yes hok]
    go_enter Try.func62, Try.ntmps62
    go_wp2_with (first | (go_at_call 14; refine (kv _ _ (H.out.up (by repeat (first | exact Ext.refl _ | refine Ext.up ?_ _ | refine Ext.alloc ?_ _ | refine Ext.drew ?_ | refine Ext.setRow ?_ (by first | (dsimp only; omega) | exact LeS.le | exact LeS.add _ | (simp; done) | (simp; omega)) _ | refine Ext.setCell ?_ (by first | (dsimp only; omega) | exact LeS.le | exact LeS.add _ | (simp; done) | (simp; omega)) _)))).mono ?_; rintro e w' ⟨rfl, z, rfl⟩) | (go_at_call 19; refine (iRootOf_any s _ _ (H.out.up (by repeat (first | exact Ext.refl _ | refine Ext.up ?_ _ | refine Ext.alloc ?_ _ | refine Ext.drew ?_ | refine Ext.setRow ?_ (by first | (dsimp only; omega) | exact LeS.le | exact LeS.add _ | (simp; done) | (simp; omega)) _ | refine Ext.setCell ?_ (by first | (dsimp only; omega) | exact LeS.le | exact LeS.add _ | (simp; done) | (simp; omega)) _)))).mono ?_; rintro e w' ⟨rfl, z2, rfl⟩) | (go_at_call 22; refine (iEffectsSum_nil _).mono ?_; rintro e w' ⟨rfl, z3, rfl⟩))
    refine bodyPost_ret (v := .agg #[.int .i64 0, .int .i64 0, .int .i64 0, .slice none 0 0, .int .i64 (rootOf s), .int .i64 21]) (by simp [results, Try.results62, go_sem]) rfl ?_
    refine ⟨rfl, .of ?_⟩
    repeat (first | (with_reducible refine Ext.setCell ?_ (by first | exact LeS.le | (simp; done) | (simp; omega)) _) | (with_reducible refine Ext.up ?_ _) | (with_reducible refine Ext.alloc ?_ _) | (with_reducible exact Ext.refl _))
theorem sFirstBlock_any (s : List Ent) (v : Value) (w : World) (h : SL (RF Ent.enc) 2 w v s) :
    Calls Try.prog 41 #[v] w fun e w' => e = .returned ((firstB s).agg (.slice none 0 0)) ∧ Up w w' := by
  have H := Lib.hid h; clear h
  rcases hok : entsOk 1 s with _ | _
  · have kv := fun w v h => sStoreValid_any s v w h
    rw [hok] at kv
    rw [firstB_no hok]
    go_enter Try.func41, Try.ntmps41
    go_wp2_with (go_at_call 35; refine (kv _ _ (H.out.up (by repeat (first | exact Ext.refl _ | refine Ext.up ?_ _ | refine Ext.alloc ?_ _ | refine Ext.drew ?_ | refine Ext.setRow ?_ (by first | (dsimp only; omega) | exact LeS.le | exact LeS.add _ | (simp; done) | (simp; omega)) _ | refine Ext.setCell ?_ (by first | (dsimp only; omega) | exact LeS.le | exact LeS.add _ | (simp; done) | (simp; omega)) _)))).mono ?_; rintro e w' ⟨rfl, z, rfl⟩)
    refine bodyPost_ret (v := .agg #[.int .i64 0, .int .i64 0, .int .i64 0, .slice none 0 0, .int .i64 0, .int .i64 0]) (by simp [results, Try.results41, go_sem]) rfl ?_
    refine ⟨rfl, .of ?_⟩
    repeat (first | (with_reducible refine Ext.setCell ?_ (by first | exact LeS.le | (simp; done) | (simp; omega)) _) | (with_reducible refine Ext.up ?_ _) | (with_reducible refine Ext.alloc ?_ _) | (with_reducible exact Ext.refl _))
  · have kv := fun w v h => sStoreValid_any s v w h
    rw [hok] at kv
    rw [firstB_yes hok]
    go_enter Try.func41, Try.ntmps41
    go_wp2_with (first | (go_at_call 35; refine (kv _ _ (H.out.up (by repeat (first | exact Ext.refl _ | refine Ext.up ?_ _ | refine Ext.alloc ?_ _ | refine Ext.drew ?_ | refine Ext.setRow ?_ (by first | (dsimp only; omega) | exact LeS.le | exact LeS.add _ | (simp; done) | (simp; omega)) _ | refine Ext.setCell ?_ (by first | (dsimp only; omega) | exact LeS.le | exact LeS.add _ | (simp; done) | (simp; omega)) _)))).mono ?_; rintro e w' ⟨rfl, z, rfl⟩) | (go_at_call 56; refine (sRootOf_any s _ _ (H.out.up (by repeat (first | exact Ext.refl _ | refine Ext.up ?_ _ | refine Ext.alloc ?_ _ | refine Ext.drew ?_ | refine Ext.setRow ?_ (by first | (dsimp only; omega) | exact LeS.le | exact LeS.add _ | (simp; done) | (simp; omega)) _ | refine Ext.setCell ?_ (by first | (dsimp only; omega) | exact LeS.le | exact LeS.add _ | (simp; done) | (simp; omega)) _)))).mono ?_; rintro e w' ⟨rfl, z2, rfl⟩) | (go_at_call 57; refine (sEffectsSum_nil _ _ _).mono ?_; rintro e w' ⟨rfl, z3, rfl⟩))
    refine bodyPost_ret (v := .agg #[.int .i64 0, .int .i64 0, .int .i64 0, .slice none 0 0, .int .i64 (rootOf s), .int .i64 21]) (by simp [results, Try.results41, go_sem]) rfl ?_
    refine ⟨rfl, .of ?_⟩
    repeat (first | (with_reducible refine Ext.setCell ?_ (by first | exact LeS.le | (simp; done) | (simp; omega)) _) | (with_reducible refine Ext.up ?_ _) | (with_reducible refine Ext.alloc ?_ _) | (with_reducible exact Ext.refl _))
end Go.Proofs.Yteiemjebdhmnaaa
namespace Go.Proofs.Yteiemjebdhmnaaa
open Go Go.RowKit Go.Proofs

theorem guards6 (a b c d e f : Bool) : a = false ∨ (a = true ∧ b = false) ∨ (a = true ∧ b = true ∧ c = false) ∨ (a = true ∧ b = true ∧ c = true ∧ d = false) ∨ (a = true ∧ b = true ∧ c = true ∧ d = true ∧ e = false) ∨ (a = true ∧ b = true ∧ c = true ∧ d = true ∧ e = true ∧ f = false) ∨ (a = true ∧ b = true ∧ c = true ∧ d = true ∧ e = true ∧ f = true) := by cases a <;> cases b <;> cases c <;> cases d <;> cases e <;> cases f <;> simp
theorem eqActs_nil (l : List Actn) (v : Value) (w : World) (h : SL (RF Actn.enc) 4 w v l) :
    Calls Try.prog 93 #[v, .slice none 0 0] w fun e w' => e = .returned (.bool ((l.length : Int) == 0)) ∧ w = w' := by
  obtain ⟨p, cap, rfl, _, _⟩ := h.openc
  clear h
  rcases hz : ((l.length : Int) == 0) with _ | _
  · have hz' : ((l.length : Int) != 0) = true := by rw [bne, hz]; rfl
    go_enter Try.func93, Try.ntmps93
    go_wp2_with fail
    go_ret
    exact ⟨rfl, rfl⟩
  · have hl : l.length = 0 := by simpa using hz
    rw [hl]
    go_enter Try.func93, Try.ntmps93
    go_wp2
    refine wp_loop_rounds 1 ?_; rw [rounds_succ]
    go_wp2
    go_ret
    exact ⟨rfl, rfl⟩
set_option maxHeartbeats 4000000 in
theorem iSame_any (x : BL) (f : Blk) (v : Value) (w : World) (h : SL (RF Actn.enc) 4 w v x.2) :
    Calls Try.prog 61 #[x.1.agg v, f.agg (.slice none 0 0)] w fun e w' => e = .returned (.bool (sameF x f)) ∧ Up w w' := by
  have H := Lib.hid h
  obtain ⟨p, cap, rfl, _, _⟩ := h.openc
  clear h
  rcases guards6 (x.1.bf == f.bf) (x.1.ht == f.ht) (x.1.vw == f.vw) (x.1.rt == f.rt) (x.1.ef == f.ef) ((x.2.length : Int) == 0) with h1 | ⟨h1, h2⟩ | ⟨h1, h2, h3⟩ | ⟨h1, h2, h3, h4⟩ | ⟨h1, h2, h3, h4, h5⟩ | ⟨h1, h2, h3, h4, h5, h6⟩ | ⟨h1, h2, h3, h4, h5, h6⟩
  all_goals
    unfold Blk.agg
    go_enter Try.func61, Try.ntmps61
    go_wp2_with (go_at_call 93; refine (eqActs_nil x.2 _ _ (H.out.up (by repeat (first | exact Ext.refl _ | refine Ext.up ?_ _ | refine Ext.alloc ?_ _ | refine Ext.drew ?_ | refine Ext.setRow ?_ (by first | (dsimp only; omega) | exact LeS.le | exact LeS.add _ | (simp; done) | (simp; omega)) _ | refine Ext.setCell ?_ (by first | (dsimp only; omega) | exact LeS.le | exact LeS.add _ | (simp; done) | (simp; omega)) _)))).mono ?_; rintro e w' ⟨rfl, rfl⟩)
    go_ret
    exact ⟨by simp only [sameF, h1, *, Bool.true_and, Bool.false_and] <;> rfl, (.of (by repeat (first | exact Ext.refl _ | refine Ext.up ?_ _ | refine Ext.alloc ?_ _ | refine Ext.drew ?_ | refine Ext.setRow ?_ (by first | (dsimp only; omega) | exact LeS.le | exact LeS.add _ | (simp; done) | (simp; omega)) _ | refine Ext.setCell ?_ (by first | (dsimp only; omega) | exact LeS.le | exact LeS.add _ | (simp; done) | (simp; omega)) _)))⟩
set_option maxHeartbeats 4000000 in
theorem sSame_any (x : BL) (f : Blk) (v : Value) (w : World) (h : SL (RF Actn.enc) 4 w v x.2) :
    Calls Try.prog 40 #[x.1.agg v, f.agg (.slice none 0 0)] w fun e w' => e = .returned (.bool (sameF x f)) ∧ Up w w' := by
  have H := Lib.hid h
  obtain ⟨p, cap, rfl, _, _⟩ := h.openc
  clear h
  have b1 : (x.1.bf != f.bf) = !(x.1.bf == f.bf) := rfl
  have b2 : (x.1.ht != f.ht) = !(x.1.ht == f.ht) := rfl
  have b3 : (x.1.vw != f.vw) = !(x.1.vw == f.vw) := rfl
  have b4 : (x.1.rt != f.rt) = !(x.1.rt == f.rt) := rfl
  have b5 : (x.1.ef != f.ef) = !(x.1.ef == f.ef) := rfl
  have b6 : ((x.2.length : Int) != 0) = !((x.2.length : Int) == 0) := rfl
  rcases guards6 (x.1.bf == f.bf) (x.1.ht == f.ht) (x.1.vw == f.vw) (x.1.rt == f.rt) (x.1.ef == f.ef) ((x.2.length : Int) == 0) with h1 | ⟨h1, h2⟩ | ⟨h1, h2, h3⟩ | ⟨h1, h2, h3, h4⟩ | ⟨h1, h2, h3, h4, h5⟩ | ⟨h1, h2, h3, h4, h5, h6⟩ | ⟨h1, h2, h3, h4, h5, h6⟩
  case inr.inr.inr.inr.inr.inr =>
    rw [h1] at b1; rw [h2] at b2; rw [h3] at b3; rw [h4] at b4; rw [h5] at b5; rw [h6] at b6
    have hl : x.2.length = 0 := by simpa using h6
    unfold Blk.agg
    rw [hl] at b6 ⊢
    go_enter Try.func40, Try.ntmps40
    go_wp2
    refine wp_loop_rounds 1 ?_; rw [rounds_succ]
    go_wp2
    go_ret
    exact ⟨by simp only [sameF, h1, h2, h3, h4, h5, h6, Bool.true_and, Bool.false_and] <;> rfl, (.of (by repeat (first | exact Ext.refl _ | refine Ext.up ?_ _ | refine Ext.alloc ?_ _ | refine Ext.drew ?_ | refine Ext.setRow ?_ (by first | (dsimp only; omega) | exact LeS.le | exact LeS.add _ | (simp; done) | (simp; omega)) _ | refine Ext.setCell ?_ (by first | (dsimp only; omega) | exact LeS.le | exact LeS.add _ | (simp; done) | (simp; omega)) _)))⟩
  all_goals
    try rw [h1] at b1
    try rw [h2] at b2
    try rw [h3] at b3
    try rw [h4] at b4
    try rw [h5] at b5
    try rw [h6] at b6
    unfold Blk.agg
    go_enter Try.func40, Try.ntmps40
    go_wp2_with fail
    go_ret
    exact ⟨by simp only [sameF, h1, *, Bool.true_and, Bool.false_and] <;> rfl, (.of (by repeat (first | exact Ext.refl _ | refine Ext.up ?_ _ | refine Ext.alloc ?_ _ | refine Ext.drew ?_ | refine Ext.setRow ?_ (by first | (dsimp only; omega) | exact LeS.le | exact LeS.add _ | (simp; done) | (simp; omega)) _ | refine Ext.setCell ?_ (by first | (dsimp only; omega) | exact LeS.le | exact LeS.add _ | (simp; done) | (simp; omega)) _)))⟩
end Go.Proofs.Yteiemjebdhmnaaa
namespace Go.Proofs.Yteiemjebdhmnaaa
open Go Go.RowKit Go.Proofs

theorem sBS_any (x : BL) (v : Value) (w : World) (h : SL (RF Actn.enc) 4 w v x.2) : Calls Try.prog 39 #[.agg #[.int .i64 x.1.bf, .int .i64 x.1.ht, .int .i64 x.1.vw, v, .int .i64 x.1.rt, .int .i64 x.1.ef]] w fun e w' => e = .returned (.int .i64 (bsumOf x)) ∧ Up w w' := sBlockSum_any x.1 x.2 v w h
theorem iBS_any (x : BL) (v : Value) (w : World) (h : SL (RF Actn.enc) 4 w v x.2) : Calls Try.prog 26 #[.agg #[.int .i64 x.1.bf, .int .i64 x.1.ht, .int .i64 x.1.vw, v, .int .i64 x.1.rt, .int .i64 x.1.ef]] w fun e w' => e = .returned (.int .i64 (bsumOf x)) ∧ Up w w' := iBlockSum_any x.1 x.2 v w h
set_option maxHeartbeats 2000000 in
theorem l13Find_any (t : Tree) (v0 v1 v2 : Value) (sum : Int) (w : World) (h : ST w v0 v1 v2 t) :
    Calls Try.prog 38 #[.agg #[v0, v1, v2], .int .i64 sum] w fun e w' => e = .returned (.int .i64 (findB t.bs sum)) ∧ Up w w' := by
  obtain ⟨h0, h1, h2⟩ := h
  obtain ⟨p0, c0, rfl, _, _⟩ := h0.openc
  obtain ⟨p2, c2, rfl, _, _⟩ := h2.openc
  obtain ⟨a, cap, rfl, hlen, hcap, hc⟩ := h1.open
  clear h0 h1 h2 hcap
  go_enter Try.func38, Try.ntmps38
  go_wp2_with fail
  go_loopw [5] (fun s5 wr => ∃ (k : Nat), s5 = .int .i64 k ∧ k ≤ t.bs.length ∧ findTo t.bs sum k = true ∧ Up (w.alloc (.cells #[.slice p0 t.base.length c0, .slice a t.bs.length cap, .slice p2 t.pr.length c2] 27)) wr) (fun s5 _ => t.bs.length - (intOf s5).toNat)
  case atStart => exact ⟨0, rfl, Nat.zero_le _, rfl, (.of (by repeat (first | exact Ext.refl _ | refine Ext.up ?_ _ | refine Ext.alloc ?_ _ | refine Ext.drew ?_ | refine Ext.setRow ?_ (by first | (dsimp only; omega) | exact LeS.le | exact LeS.add _ | (simp; done) | (simp; omega)) _ | refine Ext.setCell ?_ (by first | (dsimp only; omega) | exact LeS.le | exact LeS.add _ | (simp; done) | (simp; omega)) _)))⟩
  case round =>
    obtain ⟨k, rfl, hk, hall, ⟨z, rfl⟩⟩ := hrel
    by_cases hlt : k < t.bs.length
    · obtain ⟨x, hxk⟩ := getElem?_some_of_lt hlt
      obtain ⟨b, off, p, c, rfl, hb, c0, c1, c2, c3, c4, c5, hx⟩ := hc k x hxk
      have k0 : (0 : Int) ≤ (k : Int) := by omega
      have Hx := Lib.hid hxk; have Hall := Lib.hid hall; have Hs := Lib.hid hx
      clear hc hxk hall hx
      rcases eq_cases (bsumOf x) sum with ⟨h1, h1'⟩ | ⟨h1, h1'⟩
      · have Hf := Lib.hid (findB_at Hall.out Hx.out h1)
        have H1 := Lib.hid h1; clear h1
        go_wp2_with (go_at_call 39; refine (sBS_any x _ _ (Hs.out.up (by repeat (first | exact Ext.refl _ | refine Ext.up ?_ _ | refine Ext.alloc ?_ _ | refine Ext.drew ?_ | refine Ext.setRow ?_ (by first | (dsimp only; omega) | exact LeS.le | exact LeS.add _ | (simp; done) | (simp; omega)) _ | refine Ext.setCell ?_ (by first | (dsimp only; omega) | exact LeS.le | exact LeS.add _ | (simp; done) | (simp; omega)) _)))).mono ?_; rintro e w' ⟨rfl, z1, rfl⟩)
        go_ret
        exact ⟨by rw [Hf.out]; rfl, (.of (by repeat (first | exact Ext.refl _ | refine Ext.up ?_ _ | refine Ext.alloc ?_ _ | refine Ext.drew ?_ | refine Ext.setRow ?_ (by first | (dsimp only; omega) | exact LeS.le | exact LeS.add _ | (simp; done) | (simp; omega)) _ | refine Ext.setCell ?_ (by first | (dsimp only; omega) | exact LeS.le | exact LeS.add _ | (simp; done) | (simp; omega)) _)))⟩
      · have Hf := Lib.hid (findTo_next Hall.out Hx.out h1)
        have H1 := Lib.hid h1; clear h1
        go_wp2_with (go_at_call 39; refine (sBS_any x _ _ (Hs.out.up (by repeat (first | exact Ext.refl _ | refine Ext.up ?_ _ | refine Ext.alloc ?_ _ | refine Ext.drew ?_ | refine Ext.setRow ?_ (by first | (dsimp only; omega) | exact LeS.le | exact LeS.add _ | (simp; done) | (simp; omega)) _ | refine Ext.setCell ?_ (by first | (dsimp only; omega) | exact LeS.le | exact LeS.add _ | (simp; done) | (simp; omega)) _)))).mono ?_; rintro e w' ⟨rfl, z1, rfl⟩)
        go_roundw
        case rel => exact ⟨k + 1, by go_num, by omega, Hf.out, (.of (by repeat (first | exact Ext.refl _ | refine Ext.up ?_ _ | refine Ext.alloc ?_ _ | refine Ext.drew ?_ | refine Ext.setRow ?_ (by first | (dsimp only; omega) | exact LeS.le | exact LeS.add _ | (simp; done) | (simp; omega)) _ | refine Ext.setCell ?_ (by first | (dsimp only; omega) | exact LeS.le | exact LeS.add _ | (simp; done) | (simp; omega)) _)))⟩
        case measure => simp [intOf]; omega
    · go_wp2_with fail
      go_ret
      obtain rfl : k = t.bs.length := by omega
      exact ⟨by rw [findB_none hall]; rfl, (.of (by repeat (first | exact Ext.refl _ | refine Ext.up ?_ _ | refine Ext.alloc ?_ _ | refine Ext.drew ?_ | refine Ext.setRow ?_ (by first | (dsimp only; omega) | exact LeS.le | exact LeS.add _ | (simp; done) | (simp; omega)) _ | refine Ext.setCell ?_ (by first | (dsimp only; omega) | exact LeS.le | exact LeS.add _ | (simp; done) | (simp; omega)) _)))⟩
theorem find1_any (x : BL) (v : Value) (g : Nat) (sum : Int) (w : World) (h : SL (RF Actn.enc) 4 w v x.2) (hg : w.cell? ⟨g, 0, none⟩ = some (.int .i64 sum)) :
    Calls Try.prog 92 #[.agg #[.int .i64 x.1.bf, .int .i64 x.1.ht, .int .i64 x.1.vw, v, .int .i64 x.1.rt, .int .i64 x.1.ef], .pointer (some ⟨g, 0, none⟩)] w fun e w' => e = .returned (.bool (bsumOf x == sum)) ∧ Up w w' := by
  have H := Lib.hid h
  obtain ⟨p, c, rfl, _, _⟩ := h.openc
  clear h
  have hL : LtS g w := LtS.of_some hg
  go_enter Try.func92, Try.ntmps92
  go_wp2_with fail
  (refine wp_region_up (by kernel_rfl) (by kernel_rfl) ?_; (repeat (go_big_quiet_step ((go_at_call 26; exact Calls.up (iBS_any x _ _ (H.out.up (by repeat (first | exact Ext.refl _ | refine Ext.up ?_ _ | refine Ext.alloc ?_ _ | refine Ext.drew ?_ | refine Ext.setRow ?_ (by first | (dsimp only; omega) | exact LeS.le | exact LeS.add _ | (simp; done) | (simp; omega)) _ | refine Ext.setCell ?_ (by first | (dsimp only; omega) | exact LeS.le | exact LeS.add _ | (simp; done) | (simp; omega)) _)))))))); refine wpQuiet_nil ?_; intro _ hw'; obtain ⟨zq, hw''⟩ := hw'; subst hw'')
  go_wp2_with fail
  go_ret
  exact ⟨rfl, (.of (by repeat (first | exact Ext.refl _ | refine Ext.up ?_ _ | refine Ext.alloc ?_ _ | refine Ext.drew ?_ | refine Ext.setRow ?_ (by first | (dsimp only; omega) | exact LeS.le | exact LeS.add _ | (simp; done) | (simp; omega)) _ | refine Ext.setCell ?_ (by first | (dsimp only; omega) | exact LeS.le | exact LeS.add _ | (simp; done) | (simp; omega)) _)))⟩
set_option maxHeartbeats 2000000 in
theorem indexB_any (cs : List BL) (v : Value) (g : Nat) (sum : Int) (w : World) (h : SB w v cs) (hg : w.cell? ⟨g, 0, none⟩ = some (.int .i64 sum)) :
    Calls Try.prog 91 #[v, .func (.func 92) #[] #[.pointer (some ⟨g, 0, none⟩)]] w fun e w' => e = .returned (.int .i64 (findB cs sum)) ∧ Up w w' := by
  obtain ⟨a, cap, rfl, hlen, hcap, hc⟩ := h.open
  clear h hcap
  have hL : LtS g w := LtS.of_some hg
  have Hg := Lib.hid hg; clear hg
  go_enter Try.func91, Try.ntmps91
  go_wp2_with fail
  go_loopw [5, 8] (fun _ s8 wr => ∃ (k : Nat), s8 = .int .i64 k ∧ k ≤ cs.length ∧ findTo cs sum k = true ∧ Up w wr) (fun _ s8 _ => cs.length - (intOf s8).toNat)
  case atStart => exact ⟨0, rfl, Nat.zero_le _, rfl, (.of (by repeat (first | exact Ext.refl _ | refine Ext.up ?_ _ | refine Ext.alloc ?_ _ | refine Ext.drew ?_ | refine Ext.setRow ?_ (by first | (dsimp only; omega) | exact LeS.le | exact LeS.add _ | (simp; done) | (simp; omega)) _ | refine Ext.setCell ?_ (by first | (dsimp only; omega) | exact LeS.le | exact LeS.add _ | (simp; done) | (simp; omega)) _)))⟩
  case round =>
    obtain ⟨k, rfl, hk, hall, ⟨z, rfl⟩⟩ := hrel
    by_cases hlt : k < cs.length
    · obtain ⟨x, hxk⟩ := getElem?_some_of_lt hlt
      obtain ⟨b, off, p, c, rfl, hb, c0, c1, c2, c3, c4, c5, hx⟩ := hc k x hxk
      have k0 : (0 : Int) ≤ (k : Int) := by omega
      have Hx := Lib.hid hxk; have Hall := Lib.hid hall; have Hs := Lib.hid hx
      have Hgz := Lib.hid ((z.cell g 0).trans Hg.out)
      clear hc hxk hall hx
      rcases eq_cases (bsumOf x) sum with ⟨h1, h1'⟩ | ⟨h1, h1'⟩
      · have Hf := Lib.hid (findB_at Hall.out Hx.out h1)
        have H1 := Lib.hid h1; clear h1
        go_wp2_with (go_at_call 92; refine (find1_any x _ g sum _ (Hs.out.up (by repeat (first | exact Ext.refl _ | refine Ext.up ?_ _ | refine Ext.alloc ?_ _ | refine Ext.drew ?_ | refine Ext.setRow ?_ (by first | (dsimp only; omega) | exact LeS.le | exact LeS.add _ | (simp; done) | (simp; omega)) _ | refine Ext.setCell ?_ (by first | (dsimp only; omega) | exact LeS.le | exact LeS.add _ | (simp; done) | (simp; omega)) _))) Hgz.out).mono ?_; rintro e w' ⟨rfl, z1, rfl⟩)
        go_ret
        exact ⟨by rw [Hf.out]; rfl, (.of (by repeat (first | exact Ext.refl _ | refine Ext.up ?_ _ | refine Ext.alloc ?_ _ | refine Ext.drew ?_ | refine Ext.setRow ?_ (by first | (dsimp only; omega) | exact LeS.le | exact LeS.add _ | (simp; done) | (simp; omega)) _ | refine Ext.setCell ?_ (by first | (dsimp only; omega) | exact LeS.le | exact LeS.add _ | (simp; done) | (simp; omega)) _)))⟩
      · have Hf := Lib.hid (findTo_next Hall.out Hx.out h1)
        have H1 := Lib.hid h1; clear h1
        go_wp2_with (go_at_call 92; refine (find1_any x _ g sum _ (Hs.out.up (by repeat (first | exact Ext.refl _ | refine Ext.up ?_ _ | refine Ext.alloc ?_ _ | refine Ext.drew ?_ | refine Ext.setRow ?_ (by first | (dsimp only; omega) | exact LeS.le | exact LeS.add _ | (simp; done) | (simp; omega)) _ | refine Ext.setCell ?_ (by first | (dsimp only; omega) | exact LeS.le | exact LeS.add _ | (simp; done) | (simp; omega)) _))) Hgz.out).mono ?_; rintro e w' ⟨rfl, z1, rfl⟩)
        go_roundw
        case rel => exact ⟨k + 1, by go_num, by omega, Hf.out, (.of (by repeat (first | exact Ext.refl _ | refine Ext.up ?_ _ | refine Ext.alloc ?_ _ | refine Ext.drew ?_ | refine Ext.setRow ?_ (by first | (dsimp only; omega) | exact LeS.le | exact LeS.add _ | (simp; done) | (simp; omega)) _ | refine Ext.setCell ?_ (by first | (dsimp only; omega) | exact LeS.le | exact LeS.add _ | (simp; done) | (simp; omega)) _)))⟩
        case measure => simp [intOf]; omega
    · go_wp2_with fail
      go_ret
      obtain rfl : k = cs.length := by omega
      exact ⟨by rw [findB_none hall]; rfl, (.of (by repeat (first | exact Ext.refl _ | refine Ext.up ?_ _ | refine Ext.alloc ?_ _ | refine Ext.drew ?_ | refine Ext.setRow ?_ (by first | (dsimp only; omega) | exact LeS.le | exact LeS.add _ | (simp; done) | (simp; omega)) _ | refine Ext.setCell ?_ (by first | (dsimp only; omega) | exact LeS.le | exact LeS.add _ | (simp; done) | (simp; omega)) _)))⟩
set_option maxHeartbeats 2000000 in
theorem find_any (t : Tree) (v0 v1 v2 : Value) (sum : Int) (w : World) (h : ST w v0 v1 v2 t) :
    Calls Try.prog 59 #[.agg #[v0, v1, v2], .int .i64 sum] w fun e w' => e = .returned (.int .i64 (findB t.bs sum)) ∧ Up w w' := by
  obtain ⟨h0, h1, h2⟩ := h
  obtain ⟨p0, c0, rfl, _, _⟩ := h0.openc
  obtain ⟨p2, c2, rfl, _, _⟩ := h2.openc
  obtain ⟨a, cap, rfl, hlen, hcap⟩ := h1.openc
  have H1 := Lib.hid h1
  clear h0 h1 h2 hcap
  go_enter Try.func59, Try.ntmps59
  go_wp2_with fail
  refine (indexB_any t.bs _ (w.heap.size + 1) sum _ (H1.out.up (by repeat (first | exact Ext.refl _ | refine Ext.up ?_ _ | refine Ext.alloc ?_ _ | refine Ext.drew ?_ | refine Ext.setRow ?_ (by first | (dsimp only; omega) | exact LeS.le | exact LeS.add _ | (simp; done) | (simp; omega)) _ | refine Ext.setCell ?_ (by first | (dsimp only; omega) | exact LeS.le | exact LeS.add _ | (simp; done) | (simp; omega)) _))) (by go_simp)).mono ?_; rintro e w' ⟨rfl, z1, rfl⟩
  go_wp2_with fail
  go_ret
  exact ⟨rfl, (.of (by repeat (first | exact Ext.refl _ | refine Ext.up ?_ _ | refine Ext.alloc ?_ _ | refine Ext.drew ?_ | refine Ext.setRow ?_ (by first | (dsimp only; omega) | exact LeS.le | exact LeS.add _ | (simp; done) | (simp; omega)) _ | refine Ext.setCell ?_ (by first | (dsimp only; omega) | exact LeS.le | exact LeS.add _ | (simp; done) | (simp; omega)) _)))⟩
end Go.Proofs.Yteiemjebdhmnaaa
