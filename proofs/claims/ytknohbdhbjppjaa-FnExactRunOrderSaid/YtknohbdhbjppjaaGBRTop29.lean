/- Walks: trees of blocks: sizes, copies, comparisons. Plain ground: trees of the call's own whose slices share no block; rows behind an append. -/
import Derived.Test.YtknohbdhbjppjaaGBRTop13
import Derived.Test.YtknohbdhbjppjaaGBRTop08
import Derived.Test.YtknohbdhbjppjaaGBRTop03
import Derived.Test.YtknohbdhbjppjaaGBRTop24
set_option linter.unusedSimpArgs false
set_option linter.unusedVariables false
namespace Go.Proofs.Ytknohbdhbjppjaa
open Go Go.RowKit Go.Proofs

theorem fBlk : AppFacts Try.prog 35 26 6 64 := by
  have h : (Try.prog.info? 26).map (fun i => (i.zero, i.size, i.bytes)) = some (some (.agg #[.int .i64 0, .int .i64 0, .int .i64 0, .slice none 0 0, .int .i64 0, .int .i64 0]), 6, 64) := by kernel_rfl
  obtain ⟨i0, hi, hz0, hz1, hz2⟩ := info_parts h
  exact ⟨Try.underlying35, ⟨i0, _, hi, hz0, hz1, hz2, rfl⟩, by decide⟩
set_option maxHeartbeats 1000000 in
theorem szBlockS_any (cs : List BL) (v : Value) (n : Int) (w : World) (h : SB w v cs) (hn0 : 0 ≤ n) (hn1 : n ≤ 1048576) :
    Calls Try.prog 103 #[v, .int .i64 n] w fun e w' => ∃ m : Int, e = .returned (.int .i64 m) ∧ (m < 0 ∨ (0 ≤ m ∧ m = n - cs.length - totA cs)) ∧ Up w w' := by
  obtain ⟨a, cap, rfl, hlen, hcap, hc⟩ := h.open
  clear h hcap
  by_cases hz : n - cs.length < 0
  · go_enter Try.func103, Try.ntmps103
    go_wp2_with fail
    go_ret
    exact ⟨_, rfl, .inl (by omega), (.of (by repeat (first | exact Ext.refl _ | refine Ext.up ?_ _ | refine Ext.alloc ?_ _ | refine Ext.drew ?_ | refine Ext.setRow ?_ (by first | (dsimp only; omega) | exact LeS.le | exact LeS.add _ | (simp; done) | (simp; omega)) _ | refine Ext.setCell ?_ (by first | (dsimp only; omega) | exact LeS.le | exact LeS.add _ | (simp; done) | (simp; omega)) _)))⟩
  go_enter Try.func103, Try.ntmps103
  go_wp2_with fail
  go_loopw [1, 5] (fun s1 s4 wr => ∃ (k : Nat) (m : Int), s4 = .int .i64 k ∧ s1 = .int .i64 m ∧ m = n - cs.length - totA (cs.take k) ∧ 0 ≤ m ∧ k ≤ cs.length ∧ Up w wr) (fun _ s4 _ => cs.length - (intOf s4).toNat)
  case atStart => exact ⟨0, _, rfl, rfl, by simp [totA], by omega, Nat.zero_le _, (.of (by repeat (first | exact Ext.refl _ | refine Ext.up ?_ _ | refine Ext.alloc ?_ _ | refine Ext.drew ?_ | refine Ext.setRow ?_ (by first | (dsimp only; omega) | exact LeS.le | exact LeS.add _ | (simp; done) | (simp; omega)) _ | refine Ext.setCell ?_ (by first | (dsimp only; omega) | exact LeS.le | exact LeS.add _ | (simp; done) | (simp; omega)) _)))⟩
  case round =>
    obtain ⟨k, m, rfl, rfl, hm, hm0, hk, ⟨z, rfl⟩⟩ := hrel
    by_cases hlt : k < cs.length
    · obtain ⟨x, hxk⟩ := getElem?_some_of_lt hlt
      obtain ⟨b, off, p, c, rfl, hb, c0, c1, c2, c3, c4, c5, hx⟩ := hc k x hxk
      have Hs := Lib.hid (totA_snoc hxk)
      have Hx := Lib.hid hx
      have Hm := Lib.hid hm
      have hm1 : m ≤ 1048576 := by omega
      have k0 : (0 : Int) ≤ (k : Int) := by omega
      clear hc hxk hx hm
      have kz := fun w h => szBlock_any x.1 x.2 (.slice p x.2.length c) m w h hm0 hm1
      by_cases hz2 : szOf m x.2.length < 0
      · simp only [if_pos hz2] at kz
        go_wp2_with (go_at_call 52; refine (kz _ (Hx.out.up (by repeat (first | exact Ext.refl _ | refine Ext.up ?_ _ | refine Ext.alloc ?_ _ | refine Ext.drew ?_ | refine Ext.setRow ?_ (by first | (dsimp only; omega) | exact LeS.le | exact LeS.add _ | (simp; done) | (simp; omega)) _ | refine Ext.setCell ?_ (by first | (dsimp only; omega) | exact LeS.le | exact LeS.add _ | (simp; done) | (simp; omega)) _)))).mono ?_; rintro e w' ⟨rfl, z1, rfl⟩)
        go_ret
        exact ⟨_, rfl, .inl (by omega), (.of (by repeat (first | exact Ext.refl _ | refine Ext.up ?_ _ | refine Ext.alloc ?_ _ | refine Ext.drew ?_ | refine Ext.setRow ?_ (by first | (dsimp only; omega) | exact LeS.le | exact LeS.add _ | (simp; done) | (simp; omega)) _ | refine Ext.setCell ?_ (by first | (dsimp only; omega) | exact LeS.le | exact LeS.add _ | (simp; done) | (simp; omega)) _)))⟩
      · simp only [if_neg hz2] at kz
        have hq := szOf_eq hz2
        have hle := szOf_le hz2
        go_wp2_with (go_at_call 52; refine (kz _ (Hx.out.up (by repeat (first | exact Ext.refl _ | refine Ext.up ?_ _ | refine Ext.alloc ?_ _ | refine Ext.drew ?_ | refine Ext.setRow ?_ (by first | (dsimp only; omega) | exact LeS.le | exact LeS.add _ | (simp; done) | (simp; omega)) _ | refine Ext.setCell ?_ (by first | (dsimp only; omega) | exact LeS.le | exact LeS.add _ | (simp; done) | (simp; omega)) _)))).mono ?_; rintro e w' ⟨rfl, z1, rfl⟩)
        go_roundw
        case rel => exact ⟨k + 1, _, by go_num, rfl, by have h1 := Hs.out; have h2 := Hm.out; omega, by omega, by omega, (.of (by repeat (first | exact Ext.refl _ | refine Ext.up ?_ _ | refine Ext.alloc ?_ _ | refine Ext.drew ?_ | refine Ext.setRow ?_ (by first | (dsimp only; omega) | exact LeS.le | exact LeS.add _ | (simp; done) | (simp; omega)) _ | refine Ext.setCell ?_ (by first | (dsimp only; omega) | exact LeS.le | exact LeS.add _ | (simp; done) | (simp; omega)) _)))⟩
        case measure => simp [intOf]; omega
    · go_wp2_with fail
      go_ret
      obtain rfl : k = cs.length := by omega
      rw [List.take_length] at hm
      exact ⟨_, rfl, .inr ⟨hm0, hm⟩, (.of (by repeat (first | exact Ext.refl _ | refine Ext.up ?_ _ | refine Ext.alloc ?_ _ | refine Ext.drew ?_ | refine Ext.setRow ?_ (by first | (dsimp only; omega) | exact LeS.le | exact LeS.add _ | (simp; done) | (simp; omega)) _ | refine Ext.setCell ?_ (by first | (dsimp only; omega) | exact LeS.le | exact LeS.add _ | (simp; done) | (simp; omega)) _)))⟩
theorem szBlockTree_any (t : Tree) (v0 v1 v2 : Value) (n : Int) (w : World) (h : ST w v0 v1 v2 t) (hn0 : 0 ≤ n) (hn1 : n ≤ 1048576) :
    Calls Try.prog 48 #[.agg #[v0, v1, v2], .int .i64 n] w fun e w' => ∃ m : Int, e = .returned (.int .i64 m) ∧ (m < 0 ∨ (0 ≤ m ∧ m = n - t.base.length - t.bs.length - totA t.bs - t.pr.length)) ∧ Up w w' := by
  obtain ⟨h0, h1, h2⟩ := h
  obtain ⟨p0, c0, rfl, _, _⟩ := h0.openc
  obtain ⟨p1, c1, rfl, _, _⟩ := h1.openc
  obtain ⟨p2, c2, rfl, _, _⟩ := h2.openc
  have H0 := Lib.hid h0; have H1 := Lib.hid h1; have H2 := Lib.hid h2; clear h0 h1 h2
  have kb := fun w h => szEntryS_any t.base (.slice p0 t.base.length c0) n w h hn0 hn1
  by_cases hz : szOf n t.base.length < 0
  · go_enter Try.func48, Try.ntmps48
    go_wp2_with (go_at_call 14; refine (kb _ (H0.out.up (by repeat (first | exact Ext.refl _ | refine Ext.up ?_ _ | refine Ext.alloc ?_ _ | refine Ext.drew ?_ | refine Ext.setRow ?_ (by first | (dsimp only; omega) | exact LeS.le | exact LeS.add _ | (simp; done) | (simp; omega)) _ | refine Ext.setCell ?_ (by first | (dsimp only; omega) | exact LeS.le | exact LeS.add _ | (simp; done) | (simp; omega)) _)))).mono ?_; rintro e w' ⟨rfl, rfl⟩)
    go_ret
    exact ⟨_, rfl, .inl (by omega), (.of (by repeat (first | exact Ext.refl _ | refine Ext.up ?_ _ | refine Ext.alloc ?_ _ | refine Ext.drew ?_ | refine Ext.setRow ?_ (by first | (dsimp only; omega) | exact LeS.le | exact LeS.add _ | (simp; done) | (simp; omega)) _ | refine Ext.setCell ?_ (by first | (dsimp only; omega) | exact LeS.le | exact LeS.add _ | (simp; done) | (simp; omega)) _)))⟩
  have hq := szOf_eq hz
  have hle := szOf_le hz
  have hz' : 0 ≤ szOf n t.base.length := by omega
  generalize szOf n t.base.length = q at kb hq hz'
  have Hq := Lib.hid hq
  have hq1 : q ≤ 1048576 := by omega
  clear hz hq hle
  go_enter Try.func48, Try.ntmps48
  go_wp2_with (go_at_call 14; refine (kb _ (H0.out.up (by repeat (first | exact Ext.refl _ | refine Ext.up ?_ _ | refine Ext.alloc ?_ _ | refine Ext.drew ?_ | refine Ext.setRow ?_ (by first | (dsimp only; omega) | exact LeS.le | exact LeS.add _ | (simp; done) | (simp; omega)) _ | refine Ext.setCell ?_ (by first | (dsimp only; omega) | exact LeS.le | exact LeS.add _ | (simp; done) | (simp; omega)) _)))).mono ?_; rintro e w' ⟨rfl, rfl⟩)
  refine (szBlockS_any t.bs _ _ _ (H1.out.up (by repeat (first | exact Ext.refl _ | refine Ext.up ?_ _ | refine Ext.alloc ?_ _ | refine Ext.drew ?_ | refine Ext.setRow ?_ (by first | (dsimp only; omega) | exact LeS.le | exact LeS.add _ | (simp; done) | (simp; omega)) _ | refine Ext.setCell ?_ (by first | (dsimp only; omega) | exact LeS.le | exact LeS.add _ | (simp; done) | (simp; omega)) _))) hz' hq1).mono ?_; rintro e w' ⟨m, rfl, hm, z, rfl⟩
  rcases hm with hm | ⟨hm0, hm⟩
  · go_wp2_with fail
    go_ret
    exact ⟨_, rfl, .inl (by omega), (.of (by repeat (first | exact Ext.refl _ | refine Ext.up ?_ _ | refine Ext.alloc ?_ _ | refine Ext.drew ?_ | refine Ext.setRow ?_ (by first | (dsimp only; omega) | exact LeS.le | exact LeS.add _ | (simp; done) | (simp; omega)) _ | refine Ext.setCell ?_ (by first | (dsimp only; omega) | exact LeS.le | exact LeS.add _ | (simp; done) | (simp; omega)) _)))⟩
  have Hm := Lib.hid hm
  have hm1 : m ≤ 1048576 := by omega
  clear hm
  have kp := fun w h => szIntS_any t.pr (.slice p2 t.pr.length c2) m w h hm0 hm1
  by_cases hz2 : szOf m t.pr.length < 0
  · go_wp2_with (go_at_call 104; refine (kp _ (H2.out.up (by repeat (first | exact Ext.refl _ | refine Ext.up ?_ _ | refine Ext.alloc ?_ _ | refine Ext.drew ?_ | refine Ext.setRow ?_ (by first | (dsimp only; omega) | exact LeS.le | exact LeS.add _ | (simp; done) | (simp; omega)) _ | refine Ext.setCell ?_ (by first | (dsimp only; omega) | exact LeS.le | exact LeS.add _ | (simp; done) | (simp; omega)) _)))).mono ?_; rintro e w' ⟨rfl, rfl⟩)
    go_ret
    exact ⟨_, rfl, .inl (by omega), (.of (by repeat (first | exact Ext.refl _ | refine Ext.up ?_ _ | refine Ext.alloc ?_ _ | refine Ext.drew ?_ | refine Ext.setRow ?_ (by first | (dsimp only; omega) | exact LeS.le | exact LeS.add _ | (simp; done) | (simp; omega)) _ | refine Ext.setCell ?_ (by first | (dsimp only; omega) | exact LeS.le | exact LeS.add _ | (simp; done) | (simp; omega)) _)))⟩
  · have hq2 := szOf_eq hz2
    have hz3 : 0 ≤ szOf m t.pr.length := by omega
    generalize szOf m t.pr.length = r at kp hq2 hz3
    have Hq2 := Lib.hid hq2
    clear hz2 hq2
    go_wp2_with (go_at_call 104; refine (kp _ (H2.out.up (by repeat (first | exact Ext.refl _ | refine Ext.up ?_ _ | refine Ext.alloc ?_ _ | refine Ext.drew ?_ | refine Ext.setRow ?_ (by first | (dsimp only; omega) | exact LeS.le | exact LeS.add _ | (simp; done) | (simp; omega)) _ | refine Ext.setCell ?_ (by first | (dsimp only; omega) | exact LeS.le | exact LeS.add _ | (simp; done) | (simp; omega)) _)))).mono ?_; rintro e w' ⟨rfl, rfl⟩)
    go_ret
    exact ⟨_, rfl, .inr ⟨hz3, by have := Hq2.out; have := Hm.out; have := Hq.out; omega⟩, (.of (by repeat (first | exact Ext.refl _ | refine Ext.up ?_ _ | refine Ext.alloc ?_ _ | refine Ext.drew ?_ | refine Ext.setRow ?_ (by first | (dsimp only; omega) | exact LeS.le | exact LeS.add _ | (simp; done) | (simp; omega)) _ | refine Ext.setCell ?_ (by first | (dsimp only; omega) | exact LeS.le | exact LeS.add _ | (simp; done) | (simp; omega)) _)))⟩
set_option maxHeartbeats 1000000 in
theorem toBlock_own (b : Blk) (l : List Actn) (v : Value) (w : World) (h : SL (RF Actn.enc) 4 w v l) (hn : l.length ≤ 1048576) : Calls Try.prog 54 #[.agg #[.int .i64 b.bf, .int .i64 b.ht, .int .i64 b.vw, v, .int .i64 b.rt, .int .i64 b.ef]] w fun e w' => ∃ v', e = .returned (.agg #[.int .i64 b.bf, .int .i64 b.ht, .int .i64 b.vw, v', .int .i64 b.rt, .int .i64 b.ef]) ∧ Up w w' ∧ Own Actn.enc 86 4 w.heap.size w' v' l := by
  have hs := h
  obtain ⟨p, cap, rfl, _, _⟩ := h.open
  have Hs := Lib.hid hs; clear h hs
  go_enter Try.func54, Try.ntmps54
  go_wp2_with fail
  refine (toActionS_any l _ _ (Hs.out.up (by repeat (first | exact Ext.refl _ | refine Ext.up ?_ _ | refine Ext.alloc ?_ _ | refine Ext.drew ?_ | refine Ext.setRow ?_ (by first | (dsimp only; omega) | exact LeS.le | exact LeS.add _ | (simp; done) | (simp; omega)) _ | refine Ext.setCell ?_ (by first | (dsimp only; omega) | exact LeS.le | exact LeS.add _ | (simp; done) | (simp; omega)) _))) hn).mono ?_; rintro e w' ⟨v1, rfl, ⟨z1, rfl⟩, ho1⟩
  obtain ⟨p1, cap1, hv1, _, _⟩ := (ho1.sl Actn.enc_length).open
  subst hv1
  have Ho := Lib.hid ho1; clear ho1
  go_wp2_with fail
  refine bodyPost_ret (v := .agg #[.int .i64 b.bf, .int .i64 b.ht, .int .i64 b.vw, .slice p1 l.length cap1, .int .i64 b.rt, .int .i64 b.ef]) (by simp [results, Try.results54, go_sem]) rfl ?_
  refine ⟨_, rfl, .of ?_, Own.lo (Own.setOld (Own.setOld (Own.setOld (Own.setOld (Own.setOld (Own.setOld (Own.setOld (Own.setOld (Own.setOld Ho.out _ _ (by first | (simp; done) | (simp; omega))) _ _ (by first | (simp; done) | (simp; omega))) _ _ (by first | (simp; done) | (simp; omega))) _ _ (by first | (simp; done) | (simp; omega))) _ _ (by first | (simp; done) | (simp; omega))) _ _ (by first | (simp; done) | (simp; omega))) _ _ (by first | (simp; done) | (simp; omega))) _ _ (by first | (simp; done) | (simp; omega))) _ _ (by first | (simp; done) | (simp; omega))) LeS.le⟩
  repeat (first | (with_reducible refine Ext.setCell ?_ (by first | exact LeS.le | (simp; done) | (simp; omega)) _) | (with_reducible refine Ext.up ?_ _) | (with_reducible refine Ext.alloc ?_ _) | (with_reducible exact Ext.refl _))
set_option maxHeartbeats 2000000 in
theorem toBlockS_any (cs : List BL) (v : Value) (w : World) (h : SB w v cs) (hn : cs.length ≤ 1048576) (ha : totA cs ≤ 1048576) :
    Calls Try.prog 109 #[v] w fun e w' => ∃ v' bs, e = .returned v' ∧ Up w w' ∧ bs.map TB.core = cs ∧ OB 26 86 w.heap.size w' v' bs := by
  obtain ⟨a, cap, rfl, hlen, hcap, hc⟩ := h.open
  clear h hcap
  go_enter Try.func109, Try.ntmps109
  go_wp2_with (at_make; refine wpList_mk fBlk rfl _ _ rfl cs.length rfl rfl (by omega) (by omega) (Ext.refl _) ?_; intro z0 xs0 hown0)
  have hsz0 : w.heap.size < z0.val.heap.size ∨ cs.length = 0 := by
    by_cases h0 : cs.length = 0
    · exact .inr h0
    · left
      obtain ⟨u0, hu0⟩ := getElem?_some_of_lt (show 0 < xs0.length by have := hown0.1; omega)
      exact (LtS.of_some ((hown0.cellAt _ (by omega)).trans hu0)).lt
  go_loopw [4] (fun s4 wr => ∃ (k : Nat) (xs : List Value) (bs : List TB), s4 = .int .i64 k ∧ k ≤ cs.length ∧ Up w wr ∧ wr.ownsRow w.heap.size 26 6 (.slice (some ⟨w.heap.size, 0, none⟩) cs.length cs.length) cs.length xs ∧ Filled TB.enc 6 bs k xs ∧ bs.map TB.core = cs.take k ∧ bs.length = k ∧ (∀ x ∈ bs, Own Actn.enc 86 4 (w.heap.size + 1) wr x.v x.l) ∧ bs.Pairwise (fun x y => Apart x.v y.v)) (fun s4 _ => cs.length - (intOf s4).toNat)
  case atStart => exact ⟨0, xs0, [], rfl, Nat.zero_le _, ⟨z0, rfl⟩, hown0, Filled.zero _ _ _ _, rfl, rfl, by simp, List.Pairwise.nil⟩
  case round =>
    obtain ⟨k, xs, bs, rfl, hk, ⟨z, rfl⟩, hown, hfill, hmap, hbl, hdeep, hpw⟩ := hrel
    by_cases hlt : k < cs.length
    · obtain ⟨x, hxk⟩ := getElem?_some_of_lt hlt
      obtain ⟨b, off, p, c, rfl, hb, c0, c1, c2, c3, c4, c5, hx⟩ := hc k x hxk
      have hxl : xs.length = cs.length * 6 := hown.1
      obtain ⟨u0, hu0⟩ := getElem?_some_of_lt (show k * 6 < xs.length by omega)
      obtain ⟨u1, hu1⟩ := getElem?_some_of_lt (show k * 6 + 1 < xs.length by omega)
      obtain ⟨u2, hu2⟩ := getElem?_some_of_lt (show k * 6 + 2 < xs.length by omega)
      obtain ⟨u3, hu3⟩ := getElem?_some_of_lt (show k * 6 + 3 < xs.length by omega)
      obtain ⟨u4, hu4⟩ := getElem?_some_of_lt (show k * 6 + 4 < xs.length by omega)
      obtain ⟨u5, hu5⟩ := getElem?_some_of_lt (show k * 6 + 5 < xs.length by omega)
      have d0 : z.val.cell? ⟨w.heap.size, k * 6, none⟩ = some u0 := (hown.cellAt _ (by omega)).trans hu0
      have f0 := hown.frozenAt (k * 6)
      have d1 : z.val.cell? ⟨w.heap.size, k * 6 + 1, none⟩ = some u1 := (hown.cellAt _ (by omega)).trans hu1
      have f1 := hown.frozenAt (k * 6 + 1)
      have d2 : z.val.cell? ⟨w.heap.size, k * 6 + 2, none⟩ = some u2 := (hown.cellAt _ (by omega)).trans hu2
      have f2 := hown.frozenAt (k * 6 + 2)
      have d3 : z.val.cell? ⟨w.heap.size, k * 6 + 3, none⟩ = some u3 := (hown.cellAt _ (by omega)).trans hu3
      have f3 := hown.frozenAt (k * 6 + 3)
      have d4 : z.val.cell? ⟨w.heap.size, k * 6 + 4, none⟩ = some u4 := (hown.cellAt _ (by omega)).trans hu4
      have f4 := hown.frozenAt (k * 6 + 4)
      have d5 : z.val.cell? ⟨w.heap.size, k * 6 + 5, none⟩ = some u5 := (hown.cellAt _ (by omega)).trans hu5
      have f5 := hown.frozenAt (k * 6 + 5)
      have hL : LtS w.heap.size z.val := LtS.of_some d0
      have hxa : x.2.length ≤ 1048576 := Nat.le_trans (totA_mem (List.mem_of_getElem? hxk)) ha
      have Hx := Lib.hid hx; have Hxk := Lib.hid hxk; have Hown := Lib.hid hown; have Hf := Lib.hid hfill; have Hxl := Lib.hid hxl; have Hmap := Lib.hid hmap; have Hdeep := Lib.hid hdeep; have Hpw := Lib.hid hpw; have Hbl := Lib.hid hbl
      have k0 : (0 : Int) ≤ (k : Int) := by omega
      clear hc hxk hx hown hfill hxl hmap hdeep hpw hbl hu0 hu1 hu2 hu3 hu4 hu5
      go_wp2_with fail
      refine (toBlock_own x.1 x.2 _ _ (Hx.out.up (by repeat (first | exact Ext.refl _ | refine Ext.up ?_ _ | refine Ext.alloc ?_ _ | refine Ext.drew ?_ | refine Ext.setRow ?_ (by first | (dsimp only; omega) | exact LeS.le | exact LeS.add _ | (simp; done) | (simp; omega)) _ | refine Ext.setCell ?_ (by first | (dsimp only; omega) | exact LeS.le | exact LeS.add _ | (simp; done) | (simp; omega)) _))) hxa).mono ?_; rintro e w' ⟨v1, rfl, ⟨z1, rfl⟩, ho1⟩
      obtain ⟨p1, cap1, hv1, _, _⟩ := (ho1.sl Actn.enc_length).open
      subst hv1
      have Ho := Lib.hid (Own.lo ho1 (show w.heap.size + 1 ≤ _ by have := hL.lt; first | exact this | (have h2 := z.ext.size; omega)))
      have Hap := Lib.hid (fun y (hy : y ∈ bs) => (Own.apartU ho1 (Own.under (Hdeep.out y hy)) LeS.le).symm)
      clear ho1
      go_wp2_with fail
      go_roundw
      case rel =>
        refine ⟨k + 1, setAll xs (k * 6) (TB.enc ⟨x.1, .slice p1 x.2.length cap1, x.2⟩), bs ++ [⟨x.1, .slice p1 x.2.length cap1, x.2⟩], by go_num, by omega, .of (Ext.setAll (Nat.le_refl _) (TB.enc ⟨x.1, .slice p1 x.2.length cap1, x.2⟩) _ ((Ext.up (Ext.refl _) z).up z1)), ownsRow_setAll (TB.enc ⟨x.1, .slice p1 x.2.length cap1, x.2⟩) _ (ownsRow_up Hown.out z1.ext), Hf.out.snoc TB.enc_length _ Hbl.out (by have := Hxl.out; omega), ?_, by rw [List.length_append, Hbl.out]; rfl, ?_, ?_⟩
        · rw [List.map_append, Hmap.out, List.take_add_one, Hxk.out]; rfl
        · intro y hy
          rcases List.mem_append.1 hy with hy | hy
          · exact Own.setAllOld (Nat.lt_succ_self _) (TB.enc ⟨x.1, .slice p1 x.2.length cap1, x.2⟩) _ ((Hdeep.out y hy).up z1.ext)
          · simp only [List.mem_singleton] at hy
            subst hy
            exact Own.setAllOld (Nat.lt_succ_self _) (TB.enc ⟨x.1, .slice p1 x.2.length cap1, x.2⟩) _ Ho.out
        · rw [List.pairwise_append]
          refine ⟨Hpw.out, List.pairwise_singleton _ _, fun y hy y' hy' => ?_⟩
          simp only [List.mem_singleton] at hy'
          subst hy'
          exact Hap.out y hy
      case measure => simp [intOf]; omega
    · go_wp2_with fail
      go_ret
      obtain rfl : k = cs.length := by omega
      have e := Filled.all (l := bs) TB.enc_length (by rw [hbl]; exact hown.1) (by rw [hbl]; exact hfill)
      subst e
      have hrow : Own TB.enc 26 6 w.heap.size z.val (.slice (some ⟨w.heap.size, 0, none⟩) cs.length cs.length) bs := by
        show World.ownsRow _ _ _ _ _ _ _
        rw [hbl]; exact hown
      refine ⟨_, bs, rfl, ⟨z, rfl⟩, by rw [hmap, List.take_length], hrow, fun x hx => ⟨Own.lo (hdeep x hx) (by omega), ?_⟩, hpw⟩
      refine Own.apartU (hdeep x hx) (hi := w.heap.size + 1) (fun g hg => ?_) (Nat.le_refl _)
      have : w.heap.size = g := by simpa [Value.ownBlock] using hg
      omega
end Go.Proofs.Ytknohbdhbjppjaa
namespace Go.Proofs.Ytknohbdhbjppjaa
open Go Go.RowKit Go.Proofs

/-- One block more in a slice of blocks of the call's own. -/
theorem OB.snoc {eB eA lo : Nat} {w w' : World} {v v' : Value} {bs : List TB} {x : TB} (h : OB eB eA lo w v bs) (hg : w.grownBy w' v.ownBlock) (hb : v'.ownBlock = v.ownBlock ∨ v'.ownBlock = some w.heap.size)
    (ho : Own TB.enc eB 6 lo w' v' (bs ++ [x])) (hx : Own Actn.enc eA 4 lo w x.v x.l) (ax : Apart x.v v) (ap : ∀ y ∈ bs, Apart y.v x.v) : OB eB eA lo w' v' (bs ++ [x]) := by
  refine ⟨ho, fun y hy => ?_, ?_⟩
  · rcases List.mem_append.1 hy with hy | hy
    · obtain ⟨a1, a2⟩ := h.2.1 y hy
      exact ⟨a1.keep hg a2, Apart.grown a1 a2 (Nat.le_refl _) hb⟩
    · rw [List.mem_singleton] at hy; subst hy
      exact ⟨hx.keep hg ax, Apart.grown hx ax (Nat.le_refl _) hb⟩
  · rw [List.pairwise_append]
    refine ⟨h.2.2, List.pairwise_singleton _ _, fun y hy z hz => ?_⟩
    rw [List.mem_singleton] at hz; subst hz
    exact ap y hy
theorem keepRow0 {α : Type} {enc : α → List Value} {e sz lo rb : Nat} {w W1 w7 : World} {v : Value} {l : List α} {o r : Obj} (hG : w.grownBy W1 (some rb)) (hown : Own enc e sz lo W1 v l) (hlt : rb < lo) (hw : w.heap.size ≤ lo) (hr : W1.heap[rb]? = some r) (g8 : (W1.alloc o).grownBy w7 v.ownBlock) :
    w7.heap[rb]? = some r ∧ w.grownBy w7 (some rb) := by
  have hs : rb < W1.heap.size := (Array.getElem?_eq_some_iff.1 hr).1
  constructor
  · refine (g8.block rb (by simp; omega) (fun e => ?_)).trans ((heap_alloc_old W1 o hs).trans hr)
    rcases hown.ne_rb hlt with h | h
    · rw [h] at e; cases e
    · exact h e.symm
  · have hG2 := GB.alloc hG o
    refine ⟨g8.os.trans hG2.os, g8.tape.trans hG2.tape, g8.output.trans hG2.output, Nat.le_trans hG2.size g8.size, fun n hn hne => ?_⟩
    refine (g8.block n (Nat.lt_of_lt_of_le hn hG2.size) (fun e => ?_)).trans (hG2.block n hn hne)
    have := (World.ownsRow.lt hown n e.symm).1
    omega
/-- A tree's three slices, of the call's own, no two in one block. -/
structure OTA (eE eB eA eI lo : Nat) (w : World) (v0 v1 v2 : Value) (base : List Ent) (bs : List TB) (pr : List Int) : Prop where
  obase : Own Ent.enc eE 2 lo w v0 base
  obs : OB eB eA lo w v1 bs
  opr : Own encI eI 1 lo w v2 pr
  a01 : Apart v0 v1
  a21 : Apart v2 v1
  a02 : Apart v0 v2
  in0 : ∀ x ∈ bs, Apart x.v v0
  in2 : ∀ x ∈ bs, Apart x.v v2
theorem OTA.st {eE eB eA eI lo : Nat} {w : World} {v0 v1 v2 : Value} {base : List Ent} {bs : List TB} {pr : List Int} (h : OTA eE eB eA eI lo w v0 v1 v2 base bs pr) : ST w v0 v1 v2 ⟨base, bs.map TB.core, pr⟩ :=
  ⟨h.obase.sl Ent.enc_length, h.obs.sb, h.opr.sl encI_length⟩
theorem OTA.st' {eE eB eA eI lo : Nat} {w : World} {v0 v1 v2 : Value} {bs : List TB} {t : Tree} (h : OTA eE eB eA eI lo w v0 v1 v2 t.base bs t.pr) (hb : bs.map TB.core = t.bs) : ST w v0 v1 v2 t := by
  have := h.st
  rw [hb] at this
  exact this
theorem OTA.up {eE eB eA eI lo : Nat} {w w' : World} {v0 v1 v2 : Value} {base : List Ent} {bs : List TB} {pr : List Int} (h : OTA eE eB eA eI lo w v0 v1 v2 base bs pr) (hE : Ext w w') : OTA eE eB eA eI lo w' v0 v1 v2 base bs pr :=
  ⟨h.obase.up hE, h.obs.up hE, h.opr.up hE, h.a01, h.a21, h.a02, h.in0, h.in2⟩
theorem OTA.lo {eE eB eA eI lo lo' : Nat} {w : World} {v0 v1 v2 : Value} {base : List Ent} {bs : List TB} {pr : List Int} (h : OTA eE eB eA eI lo w v0 v1 v2 base bs pr) (hl : lo' ≤ lo) : OTA eE eB eA eI lo' w v0 v1 v2 base bs pr :=
  ⟨h.obase.lo hl, h.obs.lo hl, h.opr.lo hl, h.a01, h.a21, h.a02, h.in0, h.in2⟩
end Go.Proofs.Ytknohbdhbjppjaa
