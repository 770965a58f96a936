/- Walks: first blocks, blocks that are compared. -/
import Derived.Test.YtknohbdhbjppjaaTreeL
import Derived.Test.YtknohbdhbjppjaaBlk2
import Derived.Test.YtknohbdhbjppjaaRoot
namespace Go.Proofs.Ytknohbdhbjppjaa
open Go Go.RowKit Go.Proofs

set_option maxHeartbeats 1000000 in
theorem sSumOf_any (tag : Int) (l : List Int) (v : Value) (w : World) (h : SL (RF encI) 1 w v l) :
    Calls Try.prog 134 #[.int .i64 tag, v] w fun e w' => e = .returned (.int .i64 (sumOf tag l)) ∧ w = w' := by
  have H := Lib.hid h
  obtain ⟨p, cap, rfl, hlen, hc⟩ := h.open
  clear h
  go_enter Try.func134, Try.ntmps134
  go_wp2_with fail
  go_loop [5] (fun s5 => ∃ k : Nat, s5 = .int .i64 k ∧ k ≤ l.length ∧ (l.take k).all (fun n => inR n 0 2000000) = true) (fun s5 => l.length - (intOf s5).toNat)
  case atStart => exact ⟨0, rfl, Nat.zero_le _, rfl⟩
  case round =>
    obtain ⟨k, rfl, hk, hall⟩ := hrel
    by_cases hlt : k < l.length
    · obtain ⟨x, hxk⟩ := getElem?_some_of_lt hlt
      obtain ⟨b, off, rfl, hb, hcc⟩ := hc k x hxk
      have c0 : w.cell? ⟨b, off + k, none⟩ = some (.int .i64 x) := by have := hcc 0 _ rfl; simpa using this
      have k0 : (0 : Int) ≤ (k : Int) := by omega
      have Hx := Lib.hid hxk; have Hall := Lib.hid hall
      clear hc hcc hxk hall
      have kq := fun w => l1In_any x 0 2000000 w
      rcases hq : inR x 0 2000000 with _ | _
      · rw [hq] at kq
        go_wp2_with (go_at_call 84; refine (kq _).mono ?_; rintro e w' ⟨rfl, rfl⟩)
        go_ret
        refine ⟨?_, rfl⟩
        have hs : summed l = false := List.all_eq_false.2 ⟨x, List.mem_of_getElem? Hx.out, by rw [hq]; simp⟩
        rw [sumOf_no hs]; rfl
      · rw [hq] at kq
        go_wp2_with (go_at_call 84; refine (kq _).mono ?_; rintro e w' ⟨rfl, rfl⟩)
        go_round
        case rel => exact ⟨k + 1, by go_num, by omega, by rw [List.take_add_one, Hx.out, List.all_append, Hall.out]; simp [hq]⟩
        case measure => simp [intOf]; omega
    · obtain rfl : k = l.length := by omega
      rw [List.take_length] at hall
      have hs : summed l = true := hall
      have Hs := Lib.hid hs; clear hall hs
      rcases ht : inR tag 0 9 with _ | _
      · go_wp2_with (go_at_call 84; refine (l1In_any _ _ _ _).mono ?_; rintro e w' ⟨rfl, rfl⟩)
        go_ret
        exact ⟨by rw [sumOf_tag ht]; rfl, rfl⟩
      · obtain ⟨t0, t9⟩ := inR_iff.1 ht
        go_wp2_with (first | (go_at_call 84; refine (l1In_any _ _ _ _).mono ?_; rintro e w' ⟨rfl, rfl⟩) | (go_at_call 149; refine (l1Sum_any tag l _ _ H.out t0 t9 Hs.out).mono ?_; rintro e w' ⟨rfl, rfl⟩))
        go_ret
        exact ⟨by rw [sumOf_yes t0 t9 Hs.out]; rfl, rfl⟩
theorem sumOf4_nil : sumOf 4 [] = 21 := rfl
theorem iEffectsSum_nil (w : World) : Calls Try.prog 76 #[.slice none 0 0] w fun e w' => e = .returned (.int .i64 21) ∧ Up w w' := by
  go_enter Try.func76, Try.ntmps76
  go_wp2
  refine wp_loop_rounds 1 ?_; rw [rounds_succ]
  go_wp2_with (go_at_call 131; refine (sumOf_any 4 [] _ _ (SL.nil _ _ _ _ _)).mono ?_; rintro e w' ⟨rfl, z, rfl⟩)
  go_ret
  exact ⟨rfl, (.of (by repeat (first | exact Ext.refl _ | refine Ext.up ?_ _ | refine Ext.alloc ?_ _ | refine Ext.drew ?_ | refine Ext.setRow ?_ (by first | (dsimp only; omega) | exact LeS.le | exact LeS.add _ | (simp; done) | (simp; omega)) _ | refine Ext.setCell ?_ (by first | (dsimp only; omega) | exact LeS.le | exact LeS.add _ | (simp; done) | (simp; omega)) _)))⟩
theorem sEffectsSum_nil (a : Option Addr) (c : Nat) (w : World) : Calls Try.prog 72 #[.slice a 0 c] w fun e w' => e = .returned (.int .i64 21) ∧ Up w w' := by
  go_enter Try.func72, Try.ntmps72
  go_wp2
  refine wp_loop_rounds 1 ?_; rw [rounds_succ]
  go_wp2_with (go_at_call 134; refine (sSumOf_any 4 [] _ _ (SL.nil _ _ _ _ _)).mono ?_; rintro e w' ⟨rfl, rfl⟩)
  go_ret
  exact ⟨rfl, (.of (by repeat (first | exact Ext.refl _ | refine Ext.up ?_ _ | refine Ext.alloc ?_ _ | refine Ext.drew ?_ | refine Ext.setRow ?_ (by first | (dsimp only; omega) | exact LeS.le | exact LeS.add _ | (simp; done) | (simp; omega)) _ | refine Ext.setCell ?_ (by first | (dsimp only; omega) | exact LeS.le | exact LeS.add _ | (simp; done) | (simp; omega)) _)))⟩
def Blk.agg (b : Blk) (v : Value) : Value := .agg #[.int .i64 b.bf, .int .i64 b.ht, .int .i64 b.vw, v, .int .i64 b.rt, .int .i64 b.ef]
theorem iFirstBlock_any (s : List Ent) (v : Value) (w : World) (h : SL (RF Ent.enc) 2 w v s) :
    Calls Try.prog 17 #[v] w fun e w' => e = .returned ((firstB s).agg (.slice none 0 0)) ∧ Up w w' := by
  have H := Lib.hid h; clear h
  rcases hok : entsOk 1 s with _ | _
  · have kv := fun w v h => iStoreValid_any s v w h
    rw [hok] at kv
    rw [firstB_no hok]
    go_enter Try.func17, Try.ntmps17
    go_wp2_with (go_at_call 74; refine (kv _ _ (H.out.up (by repeat (first | exact Ext.refl _ | refine Ext.up ?_ _ | refine Ext.alloc ?_ _ | refine Ext.drew ?_ | refine Ext.setRow ?_ (by first | (dsimp only; omega) | exact LeS.le | exact LeS.add _ | (simp; done) | (simp; omega)) _ | refine Ext.setCell ?_ (by first | (dsimp only; omega) | exact LeS.le | exact LeS.add _ | (simp; done) | (simp; omega)) _)))).mono ?_; rintro e w' ⟨rfl, z, rfl⟩)
    refine bodyPost_ret (v := .agg #[.int .i64 0, .int .i64 0, .int .i64 0, .slice none 0 0, .int .i64 0, .int .i64 0]) (by simp [results, Try.results17, go_sem]) rfl ?_
    refine ⟨rfl, .of ?_⟩
    repeat (first | (with_reducible refine Ext.setCell ?_ (by first | exact LeS.le | (simp; done) | (simp; omega)) _) | (with_reducible refine Ext.up ?_ _) | (with_reducible refine Ext.alloc ?_ _) | (with_reducible exact Ext.refl _))
  · have kv := fun w v h => iStoreValid_any s v w h
    rw [hok] at kv
    rw [firstB_yes hok]
    go_enter Try.func17, Try.ntmps17
    go_wp2_with (first | (go_at_call 74; refine (kv _ _ (H.out.up (by repeat (first | exact Ext.refl _ | refine Ext.up ?_ _ | refine Ext.alloc ?_ _ | refine Ext.drew ?_ | refine Ext.setRow ?_ (by first | (dsimp only; omega) | exact LeS.le | exact LeS.add _ | (simp; done) | (simp; omega)) _ | refine Ext.setCell ?_ (by first | (dsimp only; omega) | exact LeS.le | exact LeS.add _ | (simp; done) | (simp; omega)) _)))).mono ?_; rintro e w' ⟨rfl, z, rfl⟩) | (go_at_call 75; refine (iRootOf_any s _ _ (H.out.up (by repeat (first | exact Ext.refl _ | refine Ext.up ?_ _ | refine Ext.alloc ?_ _ | refine Ext.drew ?_ | refine Ext.setRow ?_ (by first | (dsimp only; omega) | exact LeS.le | exact LeS.add _ | (simp; done) | (simp; omega)) _ | refine Ext.setCell ?_ (by first | (dsimp only; omega) | exact LeS.le | exact LeS.add _ | (simp; done) | (simp; omega)) _)))).mono ?_; rintro e w' ⟨rfl, z2, rfl⟩) | (go_at_call 76; refine (iEffectsSum_nil _).mono ?_; rintro e w' ⟨rfl, z3, rfl⟩))
    refine bodyPost_ret (v := .agg #[.int .i64 0, .int .i64 0, .int .i64 0, .slice none 0 0, .int .i64 (rootOf s), .int .i64 21]) (by simp [results, Try.results17, go_sem]) rfl ?_
    refine ⟨rfl, .of ?_⟩
    repeat (first | (with_reducible refine Ext.setCell ?_ (by first | exact LeS.le | (simp; done) | (simp; omega)) _) | (with_reducible refine Ext.up ?_ _) | (with_reducible refine Ext.alloc ?_ _) | (with_reducible exact Ext.refl _))
theorem sFirstBlock_any (s : List Ent) (v : Value) (w : World) (h : SL (RF Ent.enc) 2 w v s) :
    Calls Try.prog 15 #[v] w fun e w' => e = .returned ((firstB s).agg (.slice none 0 0)) ∧ Up w w' := by
  have H := Lib.hid h; clear h
  rcases hok : entsOk 1 s with _ | _
  · have kv := fun w v h => sStoreValid_any s v w h
    rw [hok] at kv
    rw [firstB_no hok]
    go_enter Try.func15, Try.ntmps15
    go_wp2_with (go_at_call 70; refine (kv _ _ (H.out.up (by repeat (first | exact Ext.refl _ | refine Ext.up ?_ _ | refine Ext.alloc ?_ _ | refine Ext.drew ?_ | refine Ext.setRow ?_ (by first | (dsimp only; omega) | exact LeS.le | exact LeS.add _ | (simp; done) | (simp; omega)) _ | refine Ext.setCell ?_ (by first | (dsimp only; omega) | exact LeS.le | exact LeS.add _ | (simp; done) | (simp; omega)) _)))).mono ?_; rintro e w' ⟨rfl, z, rfl⟩)
    refine bodyPost_ret (v := .agg #[.int .i64 0, .int .i64 0, .int .i64 0, .slice none 0 0, .int .i64 0, .int .i64 0]) (by simp [results, Try.results15, go_sem]) rfl ?_
    refine ⟨rfl, .of ?_⟩
    repeat (first | (with_reducible refine Ext.setCell ?_ (by first | exact LeS.le | (simp; done) | (simp; omega)) _) | (with_reducible refine Ext.up ?_ _) | (with_reducible refine Ext.alloc ?_ _) | (with_reducible exact Ext.refl _))
  · have kv := fun w v h => sStoreValid_any s v w h
    rw [hok] at kv
    rw [firstB_yes hok]
    go_enter Try.func15, Try.ntmps15
    go_wp2_with (first | (go_at_call 70; refine (kv _ _ (H.out.up (by repeat (first | exact Ext.refl _ | refine Ext.up ?_ _ | refine Ext.alloc ?_ _ | refine Ext.drew ?_ | refine Ext.setRow ?_ (by first | (dsimp only; omega) | exact LeS.le | exact LeS.add _ | (simp; done) | (simp; omega)) _ | refine Ext.setCell ?_ (by first | (dsimp only; omega) | exact LeS.le | exact LeS.add _ | (simp; done) | (simp; omega)) _)))).mono ?_; rintro e w' ⟨rfl, z, rfl⟩) | (go_at_call 71; refine (sRootOf_any s _ _ (H.out.up (by repeat (first | exact Ext.refl _ | refine Ext.up ?_ _ | refine Ext.alloc ?_ _ | refine Ext.drew ?_ | refine Ext.setRow ?_ (by first | (dsimp only; omega) | exact LeS.le | exact LeS.add _ | (simp; done) | (simp; omega)) _ | refine Ext.setCell ?_ (by first | (dsimp only; omega) | exact LeS.le | exact LeS.add _ | (simp; done) | (simp; omega)) _)))).mono ?_; rintro e w' ⟨rfl, z2, rfl⟩) | (go_at_call 72; refine (sEffectsSum_nil _ _ _).mono ?_; rintro e w' ⟨rfl, z3, rfl⟩))
    refine bodyPost_ret (v := .agg #[.int .i64 0, .int .i64 0, .int .i64 0, .slice none 0 0, .int .i64 (rootOf s), .int .i64 21]) (by simp [results, Try.results15, go_sem]) rfl ?_
    refine ⟨rfl, .of ?_⟩
    repeat (first | (with_reducible refine Ext.setCell ?_ (by first | exact LeS.le | (simp; done) | (simp; omega)) _) | (with_reducible refine Ext.up ?_ _) | (with_reducible refine Ext.alloc ?_ _) | (with_reducible exact Ext.refl _))
end Go.Proofs.Ytknohbdhbjppjaa
