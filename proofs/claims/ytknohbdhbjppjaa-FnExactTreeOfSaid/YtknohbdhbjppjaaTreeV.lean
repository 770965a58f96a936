/- Walks: blocks that are found by their sums. -/
import Derived.Test.YtknohbdhbjppjaaSame
import Derived.Test.YtknohbdhbjppjaaDeep
namespace Go.Proofs.Ytknohbdhbjppjaa
open Go Go.RowKit Go.Proofs

theorem sBS_any (x : BL) (v : Value) (w : World) (h : SL (RF Actn.enc) 4 w v x.2) : Calls Try.prog 107 #[.agg #[.int .i64 x.1.bf, .int .i64 x.1.ht, .int .i64 x.1.vw, v, .int .i64 x.1.rt, .int .i64 x.1.ef]] w fun e w' => e = .returned (.int .i64 (bsumOf x)) ∧ Up w w' := sBlockSum_any x.1 x.2 v w h
theorem iBS_any (x : BL) (v : Value) (w : World) (h : SL (RF Actn.enc) 4 w v x.2) : Calls Try.prog 111 #[.agg #[.int .i64 x.1.bf, .int .i64 x.1.ht, .int .i64 x.1.vw, v, .int .i64 x.1.rt, .int .i64 x.1.ef]] w fun e w' => e = .returned (.int .i64 (bsumOf x)) ∧ Up w w' := iBlockSum_any x.1 x.2 v w h
set_option maxHeartbeats 2000000 in
theorem l13Find_any (t : Tree) (v0 v1 v2 : Value) (sum : Int) (w : World) (h : ST w v0 v1 v2 t) :
    Calls Try.prog 106 #[.agg #[v0, v1, v2], .int .i64 sum] w fun e w' => e = .returned (.int .i64 (findB t.bs sum)) ∧ Up w w' := by
  obtain ⟨h0, h1, h2⟩ := h
  obtain ⟨p0, c0, rfl, _, _⟩ := h0.openc
  obtain ⟨p2, c2, rfl, _, _⟩ := h2.openc
  obtain ⟨a, cap, rfl, hlen, hcap, hc⟩ := h1.open
  clear h0 h1 h2 hcap
  go_enter Try.func106, Try.ntmps106
  go_wp2_with fail
  go_loopw [5] (fun s5 wr => ∃ (k : Nat), s5 = .int .i64 k ∧ k ≤ t.bs.length ∧ findTo t.bs sum k = true ∧ Up (w.alloc (.cells #[.slice p0 t.base.length c0, .slice a t.bs.length cap, .slice p2 t.pr.length c2] 38)) wr) (fun s5 _ => t.bs.length - (intOf s5).toNat)
  case atStart => exact ⟨0, rfl, Nat.zero_le _, rfl, (.of (by repeat (first | exact Ext.refl _ | refine Ext.up ?_ _ | refine Ext.alloc ?_ _ | refine Ext.drew ?_ | refine Ext.setRow ?_ (by first | (dsimp only; omega) | exact LeS.le | exact LeS.add _ | (simp; done) | (simp; omega)) _ | refine Ext.setCell ?_ (by first | (dsimp only; omega) | exact LeS.le | exact LeS.add _ | (simp; done) | (simp; omega)) _)))⟩
  case round =>
    obtain ⟨k, rfl, hk, hall, ⟨z, rfl⟩⟩ := hrel
    by_cases hlt : k < t.bs.length
    · obtain ⟨x, hxk⟩ := getElem?_some_of_lt hlt
      obtain ⟨b, off, p, c, rfl, hb, c0, c1, c2, c3, c4, c5, hx⟩ := hc k x hxk
      have k0 : (0 : Int) ≤ (k : Int) := by omega
      have Hx := Lib.hid hxk; have Hall := Lib.hid hall; have Hs := Lib.hid hx
      clear hc hxk hall hx
      rcases eq_cases (bsumOf x) sum with ⟨h1, h1'⟩ | ⟨h1, h1'⟩
      · have Hf := Lib.hid (findB_at Hall.out Hx.out h1)
        have H1 := Lib.hid h1; clear h1
        go_wp2_with (go_at_call 107; refine (sBS_any x _ _ (Hs.out.up (by repeat (first | exact Ext.refl _ | refine Ext.up ?_ _ | refine Ext.alloc ?_ _ | refine Ext.drew ?_ | refine Ext.setRow ?_ (by first | (dsimp only; omega) | exact LeS.le | exact LeS.add _ | (simp; done) | (simp; omega)) _ | refine Ext.setCell ?_ (by first | (dsimp only; omega) | exact LeS.le | exact LeS.add _ | (simp; done) | (simp; omega)) _)))).mono ?_; rintro e w' ⟨rfl, z1, rfl⟩)
        go_ret
        exact ⟨by rw [Hf.out]; rfl, (.of (by repeat (first | exact Ext.refl _ | refine Ext.up ?_ _ | refine Ext.alloc ?_ _ | refine Ext.drew ?_ | refine Ext.setRow ?_ (by first | (dsimp only; omega) | exact LeS.le | exact LeS.add _ | (simp; done) | (simp; omega)) _ | refine Ext.setCell ?_ (by first | (dsimp only; omega) | exact LeS.le | exact LeS.add _ | (simp; done) | (simp; omega)) _)))⟩
      · have Hf := Lib.hid (findTo_next Hall.out Hx.out h1)
        have H1 := Lib.hid h1; clear h1
        go_wp2_with (go_at_call 107; refine (sBS_any x _ _ (Hs.out.up (by repeat (first | exact Ext.refl _ | refine Ext.up ?_ _ | refine Ext.alloc ?_ _ | refine Ext.drew ?_ | refine Ext.setRow ?_ (by first | (dsimp only; omega) | exact LeS.le | exact LeS.add _ | (simp; done) | (simp; omega)) _ | refine Ext.setCell ?_ (by first | (dsimp only; omega) | exact LeS.le | exact LeS.add _ | (simp; done) | (simp; omega)) _)))).mono ?_; rintro e w' ⟨rfl, z1, rfl⟩)
        go_roundw
        case rel => exact ⟨k + 1, by go_num, by omega, Hf.out, (.of (by repeat (first | exact Ext.refl _ | refine Ext.up ?_ _ | refine Ext.alloc ?_ _ | refine Ext.drew ?_ | refine Ext.setRow ?_ (by first | (dsimp only; omega) | exact LeS.le | exact LeS.add _ | (simp; done) | (simp; omega)) _ | refine Ext.setCell ?_ (by first | (dsimp only; omega) | exact LeS.le | exact LeS.add _ | (simp; done) | (simp; omega)) _)))⟩
        case measure => simp [intOf]; omega
    · go_wp2_with fail
      go_ret
      obtain rfl : k = t.bs.length := by omega
      exact ⟨by rw [findB_none hall]; rfl, (.of (by repeat (first | exact Ext.refl _ | refine Ext.up ?_ _ | refine Ext.alloc ?_ _ | refine Ext.drew ?_ | refine Ext.setRow ?_ (by first | (dsimp only; omega) | exact LeS.le | exact LeS.add _ | (simp; done) | (simp; omega)) _ | refine Ext.setCell ?_ (by first | (dsimp only; omega) | exact LeS.le | exact LeS.add _ | (simp; done) | (simp; omega)) _)))⟩
theorem find1_any (x : BL) (v : Value) (g : Nat) (sum : Int) (w : World) (h : SL (RF Actn.enc) 4 w v x.2) (hg : w.cell? ⟨g, 0, none⟩ = some (.int .i64 sum)) :
    Calls Try.prog 157 #[.agg #[.int .i64 x.1.bf, .int .i64 x.1.ht, .int .i64 x.1.vw, v, .int .i64 x.1.rt, .int .i64 x.1.ef], .pointer (some ⟨g, 0, none⟩)] w fun e w' => e = .returned (.bool (bsumOf x == sum)) ∧ Up w w' := by
  have H := Lib.hid h
  obtain ⟨p, c, rfl, _, _⟩ := h.openc
  clear h
  have hL : LtS g w := LtS.of_some hg
  go_enter Try.func157, Try.ntmps157
  go_wp2_with fail
  (refine wp_region_up (by kernel_rfl) (by kernel_rfl) ?_; (repeat (go_big_quiet_step ((go_at_call 111; exact Calls.up (iBS_any x _ _ (H.out.up (by repeat (first | exact Ext.refl _ | refine Ext.up ?_ _ | refine Ext.alloc ?_ _ | refine Ext.drew ?_ | refine Ext.setRow ?_ (by first | (dsimp only; omega) | exact LeS.le | exact LeS.add _ | (simp; done) | (simp; omega)) _ | refine Ext.setCell ?_ (by first | (dsimp only; omega) | exact LeS.le | exact LeS.add _ | (simp; done) | (simp; omega)) _)))))))); refine wpQuiet_nil ?_; intro _ hw'; obtain ⟨zq, hw''⟩ := hw'; subst hw'')
  go_wp2_with fail
  go_ret
  exact ⟨rfl, (.of (by repeat (first | exact Ext.refl _ | refine Ext.up ?_ _ | refine Ext.alloc ?_ _ | refine Ext.drew ?_ | refine Ext.setRow ?_ (by first | (dsimp only; omega) | exact LeS.le | exact LeS.add _ | (simp; done) | (simp; omega)) _ | refine Ext.setCell ?_ (by first | (dsimp only; omega) | exact LeS.le | exact LeS.add _ | (simp; done) | (simp; omega)) _)))⟩
set_option maxHeartbeats 2000000 in
theorem indexB_any (cs : List BL) (v : Value) (g : Nat) (sum : Int) (w : World) (h : SB w v cs) (hg : w.cell? ⟨g, 0, none⟩ = some (.int .i64 sum)) :
    Calls Try.prog 156 #[v, .func (.func 157) #[] #[.pointer (some ⟨g, 0, none⟩)]] w fun e w' => e = .returned (.int .i64 (findB cs sum)) ∧ Up w w' := by
  obtain ⟨a, cap, rfl, hlen, hcap, hc⟩ := h.open
  clear h hcap
  have hL : LtS g w := LtS.of_some hg
  have Hg := Lib.hid hg; clear hg
  go_enter Try.func156, Try.ntmps156
  go_wp2_with fail
  go_loopw [5, 8] (fun _ s8 wr => ∃ (k : Nat), s8 = .int .i64 k ∧ k ≤ cs.length ∧ findTo cs sum k = true ∧ Up w wr) (fun _ s8 _ => cs.length - (intOf s8).toNat)
  case atStart => exact ⟨0, rfl, Nat.zero_le _, rfl, (.of (by repeat (first | exact Ext.refl _ | refine Ext.up ?_ _ | refine Ext.alloc ?_ _ | refine Ext.drew ?_ | refine Ext.setRow ?_ (by first | (dsimp only; omega) | exact LeS.le | exact LeS.add _ | (simp; done) | (simp; omega)) _ | refine Ext.setCell ?_ (by first | (dsimp only; omega) | exact LeS.le | exact LeS.add _ | (simp; done) | (simp; omega)) _)))⟩
  case round =>
    obtain ⟨k, rfl, hk, hall, ⟨z, rfl⟩⟩ := hrel
    by_cases hlt : k < cs.length
    · obtain ⟨x, hxk⟩ := getElem?_some_of_lt hlt
      obtain ⟨b, off, p, c, rfl, hb, c0, c1, c2, c3, c4, c5, hx⟩ := hc k x hxk
      have k0 : (0 : Int) ≤ (k : Int) := by omega
      have Hx := Lib.hid hxk; have Hall := Lib.hid hall; have Hs := Lib.hid hx
      have Hgz := Lib.hid ((z.cell g 0).trans Hg.out)
      clear hc hxk hall hx
      rcases eq_cases (bsumOf x) sum with ⟨h1, h1'⟩ | ⟨h1, h1'⟩
      · have Hf := Lib.hid (findB_at Hall.out Hx.out h1)
        have H1 := Lib.hid h1; clear h1
        go_wp2_with (go_at_call 157; refine (find1_any x _ g sum _ (Hs.out.up (by repeat (first | exact Ext.refl _ | refine Ext.up ?_ _ | refine Ext.alloc ?_ _ | refine Ext.drew ?_ | refine Ext.setRow ?_ (by first | (dsimp only; omega) | exact LeS.le | exact LeS.add _ | (simp; done) | (simp; omega)) _ | refine Ext.setCell ?_ (by first | (dsimp only; omega) | exact LeS.le | exact LeS.add _ | (simp; done) | (simp; omega)) _))) Hgz.out).mono ?_; rintro e w' ⟨rfl, z1, rfl⟩)
        go_ret
        exact ⟨by rw [Hf.out]; rfl, (.of (by repeat (first | exact Ext.refl _ | refine Ext.up ?_ _ | refine Ext.alloc ?_ _ | refine Ext.drew ?_ | refine Ext.setRow ?_ (by first | (dsimp only; omega) | exact LeS.le | exact LeS.add _ | (simp; done) | (simp; omega)) _ | refine Ext.setCell ?_ (by first | (dsimp only; omega) | exact LeS.le | exact LeS.add _ | (simp; done) | (simp; omega)) _)))⟩
      · have Hf := Lib.hid (findTo_next Hall.out Hx.out h1)
        have H1 := Lib.hid h1; clear h1
        go_wp2_with (go_at_call 157; refine (find1_any x _ g sum _ (Hs.out.up (by repeat (first | exact Ext.refl _ | refine Ext.up ?_ _ | refine Ext.alloc ?_ _ | refine Ext.drew ?_ | refine Ext.setRow ?_ (by first | (dsimp only; omega) | exact LeS.le | exact LeS.add _ | (simp; done) | (simp; omega)) _ | refine Ext.setCell ?_ (by first | (dsimp only; omega) | exact LeS.le | exact LeS.add _ | (simp; done) | (simp; omega)) _))) Hgz.out).mono ?_; rintro e w' ⟨rfl, z1, rfl⟩)
        go_roundw
        case rel => exact ⟨k + 1, by go_num, by omega, Hf.out, (.of (by repeat (first | exact Ext.refl _ | refine Ext.up ?_ _ | refine Ext.alloc ?_ _ | refine Ext.drew ?_ | refine Ext.setRow ?_ (by first | (dsimp only; omega) | exact LeS.le | exact LeS.add _ | (simp; done) | (simp; omega)) _ | refine Ext.setCell ?_ (by first | (dsimp only; omega) | exact LeS.le | exact LeS.add _ | (simp; done) | (simp; omega)) _)))⟩
        case measure => simp [intOf]; omega
    · go_wp2_with fail
      go_ret
      obtain rfl : k = cs.length := by omega
      exact ⟨by rw [findB_none hall]; rfl, (.of (by repeat (first | exact Ext.refl _ | refine Ext.up ?_ _ | refine Ext.alloc ?_ _ | refine Ext.drew ?_ | refine Ext.setRow ?_ (by first | (dsimp only; omega) | exact LeS.le | exact LeS.add _ | (simp; done) | (simp; omega)) _ | refine Ext.setCell ?_ (by first | (dsimp only; omega) | exact LeS.le | exact LeS.add _ | (simp; done) | (simp; omega)) _)))⟩
set_option maxHeartbeats 2000000 in
theorem find_any (t : Tree) (v0 v1 v2 : Value) (sum : Int) (w : World) (h : ST w v0 v1 v2 t) :
    Calls Try.prog 121 #[.agg #[v0, v1, v2], .int .i64 sum] w fun e w' => e = .returned (.int .i64 (findB t.bs sum)) ∧ Up w w' := by
  obtain ⟨h0, h1, h2⟩ := h
  obtain ⟨p0, c0, rfl, _, _⟩ := h0.openc
  obtain ⟨p2, c2, rfl, _, _⟩ := h2.openc
  obtain ⟨a, cap, rfl, hlen, hcap⟩ := h1.openc
  have H1 := Lib.hid h1
  clear h0 h1 h2 hcap
  go_enter Try.func121, Try.ntmps121
  go_wp2_with fail
  refine (indexB_any t.bs _ (w.heap.size + 1) sum _ (H1.out.up (by repeat (first | exact Ext.refl _ | refine Ext.up ?_ _ | refine Ext.alloc ?_ _ | refine Ext.drew ?_ | refine Ext.setRow ?_ (by first | (dsimp only; omega) | exact LeS.le | exact LeS.add _ | (simp; done) | (simp; omega)) _ | refine Ext.setCell ?_ (by first | (dsimp only; omega) | exact LeS.le | exact LeS.add _ | (simp; done) | (simp; omega)) _))) (by go_simp)).mono ?_; rintro e w' ⟨rfl, z1, rfl⟩
  go_wp2_with fail
  go_ret
  exact ⟨rfl, (.of (by repeat (first | exact Ext.refl _ | refine Ext.up ?_ _ | refine Ext.alloc ?_ _ | refine Ext.drew ?_ | refine Ext.setRow ?_ (by first | (dsimp only; omega) | exact LeS.le | exact LeS.add _ | (simp; done) | (simp; omega)) _ | refine Ext.setCell ?_ (by first | (dsimp only; omega) | exact LeS.le | exact LeS.add _ | (simp; done) | (simp; omega)) _)))⟩
end Go.Proofs.Ytknohbdhbjppjaa
