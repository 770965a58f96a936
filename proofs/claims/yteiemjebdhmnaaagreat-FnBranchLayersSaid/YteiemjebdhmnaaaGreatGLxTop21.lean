/- Walks: trees of blocks: sizes, copies, comparisons. Walks: trees of blocks: copies, comparisons, marks. The laws of trees: walks: blocks that are found, ways. The law FnExactPathTo's walk. -/
import Derived.Test.YteiemjebdhmnaaaGreatGLxTop05
import Derived.Test.YteiemjebdhmnaaaGreatGLxTop02
import Derived.Test.YteiemjebdhmnaaaGreatGLxTop20
set_option linter.unusedSimpArgs false
set_option linter.unusedVariables false
namespace Go.Proofs.YteiemjebdhmnaaaGreat
open Go Go.RowKit Go.Proofs

theorem fBlk : AppFacts Tryz.prog 24 54 6 64 := by
  have h : (Tryz.prog.info? 54).map (fun i => (i.zero, i.size, i.bytes)) = some (some (.agg #[.int .i64 0, .int .i64 0, .int .i64 0, .slice none 0 0, .int .i64 0, .int .i64 0]), 6, 64) := by kernel_rfl
  obtain ⟨i0, hi, hz0, hz1, hz2⟩ := info_parts h
  exact ⟨Tryz.underlying24, ⟨i0, _, hi, hz0, hz1, hz2, rfl⟩, by decide⟩
set_option maxHeartbeats 1000000 in
theorem szBlockS_any (cs : List BL) (v : Value) (n : Int) (w : World) (h : SB w v cs) (hn0 : 0 ≤ n) (hn1 : n ≤ 1048576) :
    Calls Tryz.prog 46 #[v, .int .i64 n] w fun e w' => ∃ m : Int, e = .returned (.int .i64 m) ∧ (m < 0 ∨ (0 ≤ m ∧ m = n - cs.length - totA cs)) ∧ Up w w' := by
  obtain ⟨a, cap, rfl, hlen, hcap, hc⟩ := h.open
  clear h hcap
  by_cases hz : n - cs.length < 0
  · go_enter Tryz.func46, Tryz.ntmps46
    go_wp2_with fail
    go_ret
    exact ⟨_, rfl, .inl (by omega), (.of (by repeat (first | exact Ext.refl _ | refine Ext.up ?_ _ | refine Ext.alloc ?_ _ | refine Ext.drew ?_ | refine Ext.setRow ?_ (by first | (dsimp only; omega) | exact LeS.le | exact LeS.add _ | (simp; done) | (simp; omega)) _ | refine Ext.setCell ?_ (by first | (dsimp only; omega) | exact LeS.le | exact LeS.add _ | (simp; done) | (simp; omega)) _)))⟩
  go_enter Tryz.func46, Tryz.ntmps46
  go_wp2_with fail
  go_loopw [1, 5] (fun s1 s4 wr => ∃ (k : Nat) (m : Int), s4 = .int .i64 k ∧ s1 = .int .i64 m ∧ m = n - cs.length - totA (cs.take k) ∧ 0 ≤ m ∧ k ≤ cs.length ∧ Up w wr) (fun _ s4 _ => cs.length - (intOf s4).toNat)
  case atStart => exact ⟨0, _, rfl, rfl, by simp [totA], by omega, Nat.zero_le _, (.of (by repeat (first | exact Ext.refl _ | refine Ext.up ?_ _ | refine Ext.alloc ?_ _ | refine Ext.drew ?_ | refine Ext.setRow ?_ (by first | (dsimp only; omega) | exact LeS.le | exact LeS.add _ | (simp; done) | (simp; omega)) _ | refine Ext.setCell ?_ (by first | (dsimp only; omega) | exact LeS.le | exact LeS.add _ | (simp; done) | (simp; omega)) _)))⟩
  case round =>
    obtain ⟨k, m, rfl, rfl, hm, hm0, hk, ⟨z, rfl⟩⟩ := hrel
    by_cases hlt : k < cs.length
    · obtain ⟨x, hxk⟩ := getElem?_some_of_lt hlt
      obtain ⟨b, off, p, c, rfl, hb, c0, c1, c2, c3, c4, c5, hx⟩ := hc k x hxk
      have Hs := Lib.hid (totA_snoc hxk)
      have Hx := Lib.hid hx
      have Hm := Lib.hid hm
      have hm1 : m ≤ 1048576 := by omega
      have k0 : (0 : Int) ≤ (k : Int) := by omega
      clear hc hxk hx hm
      have kz := fun w h => szBlock_any x.1 x.2 (.slice p x.2.length c) m w h hm0 hm1
      by_cases hz2 : szOf m x.2.length < 0
      · simp only [if_pos hz2] at kz
        go_wp2_with (go_at_call 88; refine (kz _ (Hx.out.up (by repeat (first | exact Ext.refl _ | refine Ext.up ?_ _ | refine Ext.alloc ?_ _ | refine Ext.drew ?_ | refine Ext.setRow ?_ (by first | (dsimp only; omega) | exact LeS.le | exact LeS.add _ | (simp; done) | (simp; omega)) _ | refine Ext.setCell ?_ (by first | (dsimp only; omega) | exact LeS.le | exact LeS.add _ | (simp; done) | (simp; omega)) _)))).mono ?_; rintro e w' ⟨rfl, z1, rfl⟩)
        go_ret
        exact ⟨_, rfl, .inl (by omega), (.of (by repeat (first | exact Ext.refl _ | refine Ext.up ?_ _ | refine Ext.alloc ?_ _ | refine Ext.drew ?_ | refine Ext.setRow ?_ (by first | (dsimp only; omega) | exact LeS.le | exact LeS.add _ | (simp; done) | (simp; omega)) _ | refine Ext.setCell ?_ (by first | (dsimp only; omega) | exact LeS.le | exact LeS.add _ | (simp; done) | (simp; omega)) _)))⟩
      · simp only [if_neg hz2] at kz
        have hq := szOf_eq hz2
        have hle := szOf_le hz2
        go_wp2_with (go_at_call 88; refine (kz _ (Hx.out.up (by repeat (first | exact Ext.refl _ | refine Ext.up ?_ _ | refine Ext.alloc ?_ _ | refine Ext.drew ?_ | refine Ext.setRow ?_ (by first | (dsimp only; omega) | exact LeS.le | exact LeS.add _ | (simp; done) | (simp; omega)) _ | refine Ext.setCell ?_ (by first | (dsimp only; omega) | exact LeS.le | exact LeS.add _ | (simp; done) | (simp; omega)) _)))).mono ?_; rintro e w' ⟨rfl, z1, rfl⟩)
        go_roundw
        case rel => exact ⟨k + 1, _, by go_num, rfl, by have h1 := Hs.out; have h2 := Hm.out; omega, by omega, by omega, (.of (by repeat (first | exact Ext.refl _ | refine Ext.up ?_ _ | refine Ext.alloc ?_ _ | refine Ext.drew ?_ | refine Ext.setRow ?_ (by first | (dsimp only; omega) | exact LeS.le | exact LeS.add _ | (simp; done) | (simp; omega)) _ | refine Ext.setCell ?_ (by first | (dsimp only; omega) | exact LeS.le | exact LeS.add _ | (simp; done) | (simp; omega)) _)))⟩
        case measure => simp [intOf]; omega
    · go_wp2_with fail
      go_ret
      obtain rfl : k = cs.length := by omega
      rw [List.take_length] at hm
      exact ⟨_, rfl, .inr ⟨hm0, hm⟩, (.of (by repeat (first | exact Ext.refl _ | refine Ext.up ?_ _ | refine Ext.alloc ?_ _ | refine Ext.drew ?_ | refine Ext.setRow ?_ (by first | (dsimp only; omega) | exact LeS.le | exact LeS.add _ | (simp; done) | (simp; omega)) _ | refine Ext.setCell ?_ (by first | (dsimp only; omega) | exact LeS.le | exact LeS.add _ | (simp; done) | (simp; omega)) _)))⟩
theorem szBlockTree_any (t : Tree) (v0 v1 v2 : Value) (n : Int) (w : World) (h : ST w v0 v1 v2 t) (hn0 : 0 ≤ n) (hn1 : n ≤ 1048576) :
    Calls Tryz.prog 15 #[.agg #[v0, v1, v2], .int .i64 n] w fun e w' => ∃ m : Int, e = .returned (.int .i64 m) ∧ (m < 0 ∨ (0 ≤ m ∧ m = n - t.base.length - t.bs.length - totA t.bs - t.pr.length)) ∧ Up w w' := by
  obtain ⟨h0, h1, h2⟩ := h
  obtain ⟨p0, c0, rfl, _, _⟩ := h0.openc
  obtain ⟨p1, c1, rfl, _, _⟩ := h1.openc
  obtain ⟨p2, c2, rfl, _, _⟩ := h2.openc
  have H0 := Lib.hid h0; have H1 := Lib.hid h1; have H2 := Lib.hid h2; clear h0 h1 h2
  have kb := fun w h => szEntryS_any t.base (.slice p0 t.base.length c0) n w h hn0 hn1
  by_cases hz : szOf n t.base.length < 0
  · go_enter Tryz.func15, Tryz.ntmps15
    go_wp2_with (go_at_call 45; refine (kb _ (H0.out.up (by repeat (first | exact Ext.refl _ | refine Ext.up ?_ _ | refine Ext.alloc ?_ _ | refine Ext.drew ?_ | refine Ext.setRow ?_ (by first | (dsimp only; omega) | exact LeS.le | exact LeS.add _ | (simp; done) | (simp; omega)) _ | refine Ext.setCell ?_ (by first | (dsimp only; omega) | exact LeS.le | exact LeS.add _ | (simp; done) | (simp; omega)) _)))).mono ?_; rintro e w' ⟨rfl, rfl⟩)
    go_ret
    exact ⟨_, rfl, .inl (by omega), (.of (by repeat (first | exact Ext.refl _ | refine Ext.up ?_ _ | refine Ext.alloc ?_ _ | refine Ext.drew ?_ | refine Ext.setRow ?_ (by first | (dsimp only; omega) | exact LeS.le | exact LeS.add _ | (simp; done) | (simp; omega)) _ | refine Ext.setCell ?_ (by first | (dsimp only; omega) | exact LeS.le | exact LeS.add _ | (simp; done) | (simp; omega)) _)))⟩
  have hq := szOf_eq hz
  have hle := szOf_le hz
  have hz' : 0 ≤ szOf n t.base.length := by omega
  generalize szOf n t.base.length = q at kb hq hz'
  have Hq := Lib.hid hq
  have hq1 : q ≤ 1048576 := by omega
  clear hz hq hle
  go_enter Tryz.func15, Tryz.ntmps15
  go_wp2_with (go_at_call 45; refine (kb _ (H0.out.up (by repeat (first | exact Ext.refl _ | refine Ext.up ?_ _ | refine Ext.alloc ?_ _ | refine Ext.drew ?_ | refine Ext.setRow ?_ (by first | (dsimp only; omega) | exact LeS.le | exact LeS.add _ | (simp; done) | (simp; omega)) _ | refine Ext.setCell ?_ (by first | (dsimp only; omega) | exact LeS.le | exact LeS.add _ | (simp; done) | (simp; omega)) _)))).mono ?_; rintro e w' ⟨rfl, rfl⟩)
  refine (szBlockS_any t.bs _ _ _ (H1.out.up (by repeat (first | exact Ext.refl _ | refine Ext.up ?_ _ | refine Ext.alloc ?_ _ | refine Ext.drew ?_ | refine Ext.setRow ?_ (by first | (dsimp only; omega) | exact LeS.le | exact LeS.add _ | (simp; done) | (simp; omega)) _ | refine Ext.setCell ?_ (by first | (dsimp only; omega) | exact LeS.le | exact LeS.add _ | (simp; done) | (simp; omega)) _))) hz' hq1).mono ?_; rintro e w' ⟨m, rfl, hm, z, rfl⟩
  rcases hm with hm | ⟨hm0, hm⟩
  · go_wp2_with fail
    go_ret
    exact ⟨_, rfl, .inl (by omega), (.of (by repeat (first | exact Ext.refl _ | refine Ext.up ?_ _ | refine Ext.alloc ?_ _ | refine Ext.drew ?_ | refine Ext.setRow ?_ (by first | (dsimp only; omega) | exact LeS.le | exact LeS.add _ | (simp; done) | (simp; omega)) _ | refine Ext.setCell ?_ (by first | (dsimp only; omega) | exact LeS.le | exact LeS.add _ | (simp; done) | (simp; omega)) _)))⟩
  have Hm := Lib.hid hm
  have hm1 : m ≤ 1048576 := by omega
  clear hm
  have kp := fun w h => szIntS_any t.pr (.slice p2 t.pr.length c2) m w h hm0 hm1
  by_cases hz2 : szOf m t.pr.length < 0
  · go_wp2_with (go_at_call 47; refine (kp _ (H2.out.up (by repeat (first | exact Ext.refl _ | refine Ext.up ?_ _ | refine Ext.alloc ?_ _ | refine Ext.drew ?_ | refine Ext.setRow ?_ (by first | (dsimp only; omega) | exact LeS.le | exact LeS.add _ | (simp; done) | (simp; omega)) _ | refine Ext.setCell ?_ (by first | (dsimp only; omega) | exact LeS.le | exact LeS.add _ | (simp; done) | (simp; omega)) _)))).mono ?_; rintro e w' ⟨rfl, rfl⟩)
    go_ret
    exact ⟨_, rfl, .inl (by omega), (.of (by repeat (first | exact Ext.refl _ | refine Ext.up ?_ _ | refine Ext.alloc ?_ _ | refine Ext.drew ?_ | refine Ext.setRow ?_ (by first | (dsimp only; omega) | exact LeS.le | exact LeS.add _ | (simp; done) | (simp; omega)) _ | refine Ext.setCell ?_ (by first | (dsimp only; omega) | exact LeS.le | exact LeS.add _ | (simp; done) | (simp; omega)) _)))⟩
  · have hq2 := szOf_eq hz2
    have hz3 : 0 ≤ szOf m t.pr.length := by omega
    generalize szOf m t.pr.length = r at kp hq2 hz3
    have Hq2 := Lib.hid hq2
    clear hz2 hq2
    go_wp2_with (go_at_call 47; refine (kp _ (H2.out.up (by repeat (first | exact Ext.refl _ | refine Ext.up ?_ _ | refine Ext.alloc ?_ _ | refine Ext.drew ?_ | refine Ext.setRow ?_ (by first | (dsimp only; omega) | exact LeS.le | exact LeS.add _ | (simp; done) | (simp; omega)) _ | refine Ext.setCell ?_ (by first | (dsimp only; omega) | exact LeS.le | exact LeS.add _ | (simp; done) | (simp; omega)) _)))).mono ?_; rintro e w' ⟨rfl, rfl⟩)
    go_ret
    exact ⟨_, rfl, .inr ⟨hz3, by have := Hq2.out; have := Hm.out; have := Hq.out; omega⟩, (.of (by repeat (first | exact Ext.refl _ | refine Ext.up ?_ _ | refine Ext.alloc ?_ _ | refine Ext.drew ?_ | refine Ext.setRow ?_ (by first | (dsimp only; omega) | exact LeS.le | exact LeS.add _ | (simp; done) | (simp; omega)) _ | refine Ext.setCell ?_ (by first | (dsimp only; omega) | exact LeS.le | exact LeS.add _ | (simp; done) | (simp; omega)) _)))⟩
set_option maxHeartbeats 1000000 in
theorem toBlock_own (b : Blk) (l : List Actn) (v : Value) (w : World) (h : SL (RF Actn.enc) 4 w v l) (hn : l.length ≤ 1048576) : Calls Tryz.prog 90 #[.agg #[.int .i64 b.bf, .int .i64 b.ht, .int .i64 b.vw, v, .int .i64 b.rt, .int .i64 b.ef]] w fun e w' => ∃ v', e = .returned (.agg #[.int .i64 b.bf, .int .i64 b.ht, .int .i64 b.vw, v', .int .i64 b.rt, .int .i64 b.ef]) ∧ Up w w' ∧ Own Actn.enc 106 4 w.heap.size w' v' l := by
  have hs := h
  obtain ⟨p, cap, rfl, _, _⟩ := h.open
  have Hs := Lib.hid hs; clear h hs
  go_enter Tryz.func90, Tryz.ntmps90
  go_wp2_with fail
  refine (toActionS_any l _ _ (Hs.out.up (by repeat (first | exact Ext.refl _ | refine Ext.up ?_ _ | refine Ext.alloc ?_ _ | refine Ext.drew ?_ | refine Ext.setRow ?_ (by first | (dsimp only; omega) | exact LeS.le | exact LeS.add _ | (simp; done) | (simp; omega)) _ | refine Ext.setCell ?_ (by first | (dsimp only; omega) | exact LeS.le | exact LeS.add _ | (simp; done) | (simp; omega)) _))) hn).mono ?_; rintro e w' ⟨v1, rfl, ⟨z1, rfl⟩, ho1⟩
  obtain ⟨p1, cap1, hv1, _, _⟩ := (ho1.sl Actn.enc_length).open
  subst hv1
  have Ho := Lib.hid ho1; clear ho1
  go_wp2_with fail
  refine bodyPost_ret (v := .agg #[.int .i64 b.bf, .int .i64 b.ht, .int .i64 b.vw, .slice p1 l.length cap1, .int .i64 b.rt, .int .i64 b.ef]) (by simp [results, Tryz.results90, go_sem]) rfl ?_
  refine ⟨_, rfl, .of ?_, Own.lo (Own.setOld (Own.setOld (Own.setOld (Own.setOld (Own.setOld (Own.setOld (Own.setOld (Own.setOld (Own.setOld Ho.out _ _ (by first | (simp; done) | (simp; omega))) _ _ (by first | (simp; done) | (simp; omega))) _ _ (by first | (simp; done) | (simp; omega))) _ _ (by first | (simp; done) | (simp; omega))) _ _ (by first | (simp; done) | (simp; omega))) _ _ (by first | (simp; done) | (simp; omega))) _ _ (by first | (simp; done) | (simp; omega))) _ _ (by first | (simp; done) | (simp; omega))) _ _ (by first | (simp; done) | (simp; omega))) LeS.le⟩
  repeat (first | (with_reducible refine Ext.setCell ?_ (by first | exact LeS.le | (simp; done) | (simp; omega)) _) | (with_reducible refine Ext.up ?_ _) | (with_reducible refine Ext.alloc ?_ _) | (with_reducible exact Ext.refl _))
set_option maxHeartbeats 2000000 in
theorem toBlockS_any (cs : List BL) (v : Value) (w : World) (h : SB w v cs) (hn : cs.length ≤ 1048576) (ha : totA cs ≤ 1048576) :
    Calls Tryz.prog 49 #[v] w fun e w' => ∃ v' bs, e = .returned v' ∧ Up w w' ∧ bs.map TB.core = cs ∧ OB 54 106 w.heap.size w' v' bs := by
  obtain ⟨a, cap, rfl, hlen, hcap, hc⟩ := h.open
  clear h hcap
  go_enter Tryz.func49, Tryz.ntmps49
  go_wp2_with (at_make; refine wpList_mk fBlk rfl _ _ rfl cs.length rfl rfl (by omega) (by omega) (Ext.refl _) ?_; intro z0 xs0 hown0)
  have hsz0 : w.heap.size < z0.val.heap.size ∨ cs.length = 0 := by
    by_cases h0 : cs.length = 0
    · exact .inr h0
    · left
      obtain ⟨u0, hu0⟩ := getElem?_some_of_lt (show 0 < xs0.length by have := hown0.1; omega)
      exact (LtS.of_some ((hown0.cellAt _ (by omega)).trans hu0)).lt
  go_loopw [4] (fun s4 wr => ∃ (k : Nat) (xs : List Value) (bs : List TB), s4 = .int .i64 k ∧ k ≤ cs.length ∧ Up w wr ∧ wr.ownsRow w.heap.size 54 6 (.slice (some ⟨w.heap.size, 0, none⟩) cs.length cs.length) cs.length xs ∧ Filled TB.enc 6 bs k xs ∧ bs.map TB.core = cs.take k ∧ bs.length = k ∧ (∀ x ∈ bs, Own Actn.enc 106 4 (w.heap.size + 1) wr x.v x.l) ∧ bs.Pairwise (fun x y => Apart x.v y.v)) (fun s4 _ => cs.length - (intOf s4).toNat)
  case atStart => exact ⟨0, xs0, [], rfl, Nat.zero_le _, ⟨z0, rfl⟩, hown0, Filled.zero _ _ _ _, rfl, rfl, by simp, List.Pairwise.nil⟩
  case round =>
    obtain ⟨k, xs, bs, rfl, hk, ⟨z, rfl⟩, hown, hfill, hmap, hbl, hdeep, hpw⟩ := hrel
    by_cases hlt : k < cs.length
    · obtain ⟨x, hxk⟩ := getElem?_some_of_lt hlt
      obtain ⟨b, off, p, c, rfl, hb, c0, c1, c2, c3, c4, c5, hx⟩ := hc k x hxk
      have hxl : xs.length = cs.length * 6 := hown.1
      obtain ⟨u0, hu0⟩ := getElem?_some_of_lt (show k * 6 < xs.length by omega)
      obtain ⟨u1, hu1⟩ := getElem?_some_of_lt (show k * 6 + 1 < xs.length by omega)
      obtain ⟨u2, hu2⟩ := getElem?_some_of_lt (show k * 6 + 2 < xs.length by omega)
      obtain ⟨u3, hu3⟩ := getElem?_some_of_lt (show k * 6 + 3 < xs.length by omega)
      obtain ⟨u4, hu4⟩ := getElem?_some_of_lt (show k * 6 + 4 < xs.length by omega)
      obtain ⟨u5, hu5⟩ := getElem?_some_of_lt (show k * 6 + 5 < xs.length by omega)
      have d0 : z.val.cell? ⟨w.heap.size, k * 6, none⟩ = some u0 := (hown.cellAt _ (by omega)).trans hu0
      have f0 := hown.frozenAt (k * 6)
      have d1 : z.val.cell? ⟨w.heap.size, k * 6 + 1, none⟩ = some u1 := (hown.cellAt _ (by omega)).trans hu1
      have f1 := hown.frozenAt (k * 6 + 1)
      have d2 : z.val.cell? ⟨w.heap.size, k * 6 + 2, none⟩ = some u2 := (hown.cellAt _ (by omega)).trans hu2
      have f2 := hown.frozenAt (k * 6 + 2)
      have d3 : z.val.cell? ⟨w.heap.size, k * 6 + 3, none⟩ = some u3 := (hown.cellAt _ (by omega)).trans hu3
      have f3 := hown.frozenAt (k * 6 + 3)
      have d4 : z.val.cell? ⟨w.heap.size, k * 6 + 4, none⟩ = some u4 := (hown.cellAt _ (by omega)).trans hu4
      have f4 := hown.frozenAt (k * 6 + 4)
      have d5 : z.val.cell? ⟨w.heap.size, k * 6 + 5, none⟩ = some u5 := (hown.cellAt _ (by omega)).trans hu5
      have f5 := hown.frozenAt (k * 6 + 5)
      have hL : LtS w.heap.size z.val := LtS.of_some d0
      have hxa : x.2.length ≤ 1048576 := Nat.le_trans (totA_mem (List.mem_of_getElem? hxk)) ha
      have Hx := Lib.hid hx; have Hxk := Lib.hid hxk; have Hown := Lib.hid hown; have Hf := Lib.hid hfill; have Hxl := Lib.hid hxl; have Hmap := Lib.hid hmap; have Hdeep := Lib.hid hdeep; have Hpw := Lib.hid hpw; have Hbl := Lib.hid hbl
      have k0 : (0 : Int) ≤ (k : Int) := by omega
      clear hc hxk hx hown hfill hxl hmap hdeep hpw hbl hu0 hu1 hu2 hu3 hu4 hu5
      go_wp2_with fail
      refine (toBlock_own x.1 x.2 _ _ (Hx.out.up (by repeat (first | exact Ext.refl _ | refine Ext.up ?_ _ | refine Ext.alloc ?_ _ | refine Ext.drew ?_ | refine Ext.setRow ?_ (by first | (dsimp only; omega) | exact LeS.le | exact LeS.add _ | (simp; done) | (simp; omega)) _ | refine Ext.setCell ?_ (by first | (dsimp only; omega) | exact LeS.le | exact LeS.add _ | (simp; done) | (simp; omega)) _))) hxa).mono ?_; rintro e w' ⟨v1, rfl, ⟨z1, rfl⟩, ho1⟩
      obtain ⟨p1, cap1, hv1, _, _⟩ := (ho1.sl Actn.enc_length).open
      subst hv1
      have Ho := Lib.hid (Own.lo ho1 (show w.heap.size + 1 ≤ _ by have := hL.lt; first | exact this | (have h2 := z.ext.size; omega)))
      have Hap := Lib.hid (fun y (hy : y ∈ bs) => (Own.apartU ho1 (Own.under (Hdeep.out y hy)) LeS.le).symm)
      clear ho1
      go_wp2_with fail
      go_roundw
      case rel =>
        refine ⟨k + 1, setAll xs (k * 6) (TB.enc ⟨x.1, .slice p1 x.2.length cap1, x.2⟩), bs ++ [⟨x.1, .slice p1 x.2.length cap1, x.2⟩], by go_num, by omega, .of (Ext.setAll (Nat.le_refl _) (TB.enc ⟨x.1, .slice p1 x.2.length cap1, x.2⟩) _ ((Ext.up (Ext.refl _) z).up z1)), ownsRow_setAll (TB.enc ⟨x.1, .slice p1 x.2.length cap1, x.2⟩) _ (ownsRow_up Hown.out z1.ext), Hf.out.snoc TB.enc_length _ Hbl.out (by have := Hxl.out; omega), ?_, by rw [List.length_append, Hbl.out]; rfl, ?_, ?_⟩
        · rw [List.map_append, Hmap.out, List.take_add_one, Hxk.out]; rfl
        · intro y hy
          rcases List.mem_append.1 hy with hy | hy
          · exact Own.setAllOld (Nat.lt_succ_self _) (TB.enc ⟨x.1, .slice p1 x.2.length cap1, x.2⟩) _ ((Hdeep.out y hy).up z1.ext)
          · simp only [List.mem_singleton] at hy
            subst hy
            exact Own.setAllOld (Nat.lt_succ_self _) (TB.enc ⟨x.1, .slice p1 x.2.length cap1, x.2⟩) _ Ho.out
        · rw [List.pairwise_append]
          refine ⟨Hpw.out, List.pairwise_singleton _ _, fun y hy y' hy' => ?_⟩
          simp only [List.mem_singleton] at hy'
          subst hy'
          exact Hap.out y hy
      case measure => simp [intOf]; omega
    · go_wp2_with fail
      go_ret
      obtain rfl : k = cs.length := by omega
      have e := Filled.all (l := bs) TB.enc_length (by rw [hbl]; exact hown.1) (by rw [hbl]; exact hfill)
      subst e
      have hrow : Own TB.enc 54 6 w.heap.size z.val (.slice (some ⟨w.heap.size, 0, none⟩) cs.length cs.length) bs := by
        show World.ownsRow _ _ _ _ _ _ _
        rw [hbl]; exact hown
      refine ⟨_, bs, rfl, ⟨z, rfl⟩, by rw [hmap, List.take_length], hrow, fun x hx => ⟨Own.lo (hdeep x hx) (by omega), ?_⟩, hpw⟩
      refine Own.apartU (hdeep x hx) (hi := w.heap.size + 1) (fun g hg => ?_) (Nat.le_refl _)
      have : w.heap.size = g := by simpa [Value.ownBlock] using hg
      omega
end Go.Proofs.YteiemjebdhmnaaaGreat
namespace Go.Proofs.YteiemjebdhmnaaaGreat
open Go Go.RowKit Go.Proofs

set_option maxHeartbeats 2000000 in
theorem eqBlockS_same (cs : List BL) (v v' : Value) (w : World) (h : SB w v cs) (h' : SB w v' cs) :
    Calls Tryz.prog 53 #[v, v'] w fun e w' => e = .returned (.bool true) ∧ Up w w' := by
  obtain ⟨a, cap, rfl, hlen, hcap, hc⟩ := h.open
  obtain ⟨a', cap', rfl, _, hcap', hc'⟩ := h'.open
  clear h h' hcap hcap'
  go_enter Tryz.func53, Tryz.ntmps53
  go_wp2_with fail
  go_loopw [5] (fun s5 wr => ∃ (k : Nat), s5 = .int .i64 k ∧ k ≤ cs.length ∧ Up w wr) (fun s5 _ => cs.length - (intOf s5).toNat)
  case atStart => exact ⟨0, rfl, Nat.zero_le _, .of (Ext.refl _)⟩
  case round =>
    obtain ⟨k, rfl, hk, ⟨z, rfl⟩⟩ := hrel
    by_cases hlt : k < cs.length
    · obtain ⟨x, hxk⟩ := getElem?_some_of_lt hlt
      obtain ⟨b, off, p, c, rfl, hb, c0, c1, c2, c3, c4, c5, hx⟩ := hc k x hxk
      obtain ⟨b', off', p', c', rfl, hb', d0, d1, d2, d3, d4, d5, hx'⟩ := hc' k x hxk
      have k0 : (0 : Int) ≤ (k : Int) := by omega
      have Hx := Lib.hid hx; have Hx' := Lib.hid hx'
      clear hc hc' hxk hx hx'
      go_wp2_with fail
      (refine wp_region_up (by kernel_rfl) (by kernel_rfl) ?_; (repeat (go_big_quiet_step ((go_at_call 92; exact Calls.up (eqBlock_same x.1 x.2 _ _ _ (Hx.out.up (by repeat (first | exact Ext.refl _ | refine Ext.up ?_ _ | refine Ext.alloc ?_ _ | refine Ext.drew ?_ | refine Ext.setRow ?_ (by first | (dsimp only; omega) | exact LeS.le | exact LeS.add _ | (simp; done) | (simp; omega)) _ | refine Ext.setCell ?_ (by first | (dsimp only; omega) | exact LeS.le | exact LeS.add _ | (simp; done) | (simp; omega)) _))) (Hx'.out.up (by repeat (first | exact Ext.refl _ | refine Ext.up ?_ _ | refine Ext.alloc ?_ _ | refine Ext.drew ?_ | refine Ext.setRow ?_ (by first | (dsimp only; omega) | exact LeS.le | exact LeS.add _ | (simp; done) | (simp; omega)) _ | refine Ext.setCell ?_ (by first | (dsimp only; omega) | exact LeS.le | exact LeS.add _ | (simp; done) | (simp; omega)) _)))))))); refine wpQuiet_nil ?_; intro _ hw'; obtain ⟨zq, hw''⟩ := hw'; subst hw'')
      go_wp2_with fail
      go_roundw
      case rel => exact ⟨k + 1, by go_num, by omega, (.of (by repeat (first | exact Ext.refl _ | refine Ext.up ?_ _ | refine Ext.alloc ?_ _ | refine Ext.drew ?_ | refine Ext.setRow ?_ (by first | (dsimp only; omega) | exact LeS.le | exact LeS.add _ | (simp; done) | (simp; omega)) _ | refine Ext.setCell ?_ (by first | (dsimp only; omega) | exact LeS.le | exact LeS.add _ | (simp; done) | (simp; omega)) _)))⟩
      case measure => simp [intOf]; omega
    · go_wp2_with fail
      go_ret
      exact ⟨rfl, z, rfl⟩
theorem eqBlockTree_same (t : Tree) (v0 v1 v2 u0 u1 u2 : Value) (w : World) (h : ST w v0 v1 v2 t) (h' : ST w u0 u1 u2 t) :
    Calls Tryz.prog 18 #[.agg #[v0, v1, v2], .agg #[u0, u1, u2]] w fun e w' => e = .returned (.bool true) ∧ Up w w' := by
  obtain ⟨h0, h1, h2⟩ := h
  obtain ⟨p0, c0, rfl, _, _⟩ := h0.openc
  obtain ⟨p1, c1, rfl, _, _⟩ := h1.openc
  obtain ⟨p2, c2, rfl, _, _⟩ := h2.openc
  obtain ⟨g0, g1, g2⟩ := h'
  obtain ⟨q0, d0, rfl, _, _⟩ := g0.openc
  obtain ⟨q1, d1, rfl, _, _⟩ := g1.openc
  obtain ⟨q2, d2, rfl, _, _⟩ := g2.openc
  have H0 := Lib.hid h0; have H1 := Lib.hid h1; have H2 := Lib.hid h2; clear h0 h1 h2
  have G0 := Lib.hid g0; have G1 := Lib.hid g1; have G2 := Lib.hid g2; clear g0 g1 g2
  go_enter Tryz.func18, Tryz.ntmps18
  go_wp2_with (first | (go_at_call 52; refine (eqEntryS_same t.base _ _ _ (H0.out.up (by repeat (first | exact Ext.refl _ | refine Ext.up ?_ _ | refine Ext.alloc ?_ _ | refine Ext.drew ?_ | refine Ext.setRow ?_ (by first | (dsimp only; omega) | exact LeS.le | exact LeS.add _ | (simp; done) | (simp; omega)) _ | refine Ext.setCell ?_ (by first | (dsimp only; omega) | exact LeS.le | exact LeS.add _ | (simp; done) | (simp; omega)) _))) (G0.out.up (by repeat (first | exact Ext.refl _ | refine Ext.up ?_ _ | refine Ext.alloc ?_ _ | refine Ext.drew ?_ | refine Ext.setRow ?_ (by first | (dsimp only; omega) | exact LeS.le | exact LeS.add _ | (simp; done) | (simp; omega)) _ | refine Ext.setCell ?_ (by first | (dsimp only; omega) | exact LeS.le | exact LeS.add _ | (simp; done) | (simp; omega)) _)))).mono ?_; rintro e w' ⟨rfl, z, rfl⟩) | (go_at_call 53; refine (eqBlockS_same t.bs _ _ _ (H1.out.up (by repeat (first | exact Ext.refl _ | refine Ext.up ?_ _ | refine Ext.alloc ?_ _ | refine Ext.drew ?_ | refine Ext.setRow ?_ (by first | (dsimp only; omega) | exact LeS.le | exact LeS.add _ | (simp; done) | (simp; omega)) _ | refine Ext.setCell ?_ (by first | (dsimp only; omega) | exact LeS.le | exact LeS.add _ | (simp; done) | (simp; omega)) _))) (G1.out.up (by repeat (first | exact Ext.refl _ | refine Ext.up ?_ _ | refine Ext.alloc ?_ _ | refine Ext.drew ?_ | refine Ext.setRow ?_ (by first | (dsimp only; omega) | exact LeS.le | exact LeS.add _ | (simp; done) | (simp; omega)) _ | refine Ext.setCell ?_ (by first | (dsimp only; omega) | exact LeS.le | exact LeS.add _ | (simp; done) | (simp; omega)) _)))).mono ?_; rintro e w' ⟨rfl, z2, rfl⟩) | (go_at_call 54; refine (eqIntS_same t.pr _ _ _ (H2.out.up (by repeat (first | exact Ext.refl _ | refine Ext.up ?_ _ | refine Ext.alloc ?_ _ | refine Ext.drew ?_ | refine Ext.setRow ?_ (by first | (dsimp only; omega) | exact LeS.le | exact LeS.add _ | (simp; done) | (simp; omega)) _ | refine Ext.setCell ?_ (by first | (dsimp only; omega) | exact LeS.le | exact LeS.add _ | (simp; done) | (simp; omega)) _))) (G2.out.up (by repeat (first | exact Ext.refl _ | refine Ext.up ?_ _ | refine Ext.alloc ?_ _ | refine Ext.drew ?_ | refine Ext.setRow ?_ (by first | (dsimp only; omega) | exact LeS.le | exact LeS.add _ | (simp; done) | (simp; omega)) _ | refine Ext.setCell ?_ (by first | (dsimp only; omega) | exact LeS.le | exact LeS.add _ | (simp; done) | (simp; omega)) _)))).mono ?_; rintro e w' ⟨rfl, z3, rfl⟩))
  go_ret
  exact ⟨rfl, (.of (by repeat (first | exact Ext.refl _ | refine Ext.up ?_ _ | refine Ext.alloc ?_ _ | refine Ext.drew ?_ | refine Ext.setRow ?_ (by first | (dsimp only; omega) | exact LeS.le | exact LeS.add _ | (simp; done) | (simp; omega)) _ | refine Ext.setCell ?_ (by first | (dsimp only; omega) | exact LeS.le | exact LeS.add _ | (simp; done) | (simp; omega)) _)))⟩
set_option maxHeartbeats 2000000 in
theorem toBlockTree_any (t : Tree) (v0 v1 v2 : Value) (w : World) (h : ST w v0 v1 v2 t) (hn : t.base.length ≤ 1048576) (hb : t.bs.length ≤ 1048576) (ha : totA t.bs ≤ 1048576) (hp : t.pr.length ≤ 1048576) :
    Calls Tryz.prog 16 #[.agg #[v0, v1, v2]] w fun e w' => ∃ u0 u1 u2 bs, e = .returned (.agg #[u0, u1, u2]) ∧ Up w w' ∧ bs.map TB.core = t.bs ∧ OT 64 54 106 3 w.heap.size w'.heap.size w' u0 u1 u2 t.base bs t.pr := by
  obtain ⟨h0, h1, h2⟩ := h
  obtain ⟨p0, c0, rfl, _, _⟩ := h0.openc
  obtain ⟨p1, c1, rfl, _, _⟩ := h1.openc
  obtain ⟨p2, c2, rfl, _, _⟩ := h2.openc
  have H0 := Lib.hid h0; have H1 := Lib.hid h1; have H2 := Lib.hid h2; clear h0 h1 h2
  go_enter Tryz.func16, Tryz.ntmps16
  go_wp2_with fail
  refine (toEntryS_any t.base _ _ (H0.out.up (by repeat (first | exact Ext.refl _ | refine Ext.up ?_ _ | refine Ext.alloc ?_ _ | refine Ext.drew ?_ | refine Ext.setRow ?_ (by first | (dsimp only; omega) | exact LeS.le | exact LeS.add _ | (simp; done) | (simp; omega)) _ | refine Ext.setCell ?_ (by first | (dsimp only; omega) | exact LeS.le | exact LeS.add _ | (simp; done) | (simp; omega)) _))) hn).mono ?_; rintro e w' ⟨y0, rfl, ⟨z0, rfl⟩, o0⟩
  obtain ⟨q0, d0, rfl, _, _⟩ := (o0.sl Ent.enc_length).openc
  have O0 := Lib.hid o0; clear o0
  go_wp2_with fail
  refine (toBlockS_any t.bs _ _ (H1.out.up (by repeat (first | exact Ext.refl _ | refine Ext.up ?_ _ | refine Ext.alloc ?_ _ | refine Ext.drew ?_ | refine Ext.setRow ?_ (by first | (dsimp only; omega) | exact LeS.le | exact LeS.add _ | (simp; done) | (simp; omega)) _ | refine Ext.setCell ?_ (by first | (dsimp only; omega) | exact LeS.le | exact LeS.add _ | (simp; done) | (simp; omega)) _))) hb ha).mono ?_; rintro e w' ⟨y1, bs, rfl, ⟨z1, rfl⟩, hm, o1⟩
  obtain ⟨q1, d1, rfl, _, _⟩ := (o1.1.sl TB.enc_length).openc
  have O1 := Lib.hid o1; clear o1
  go_wp2_with fail
  refine (toIntS_any t.pr _ _ (H2.out.up (by repeat (first | exact Ext.refl _ | refine Ext.up ?_ _ | refine Ext.alloc ?_ _ | refine Ext.drew ?_ | refine Ext.setRow ?_ (by first | (dsimp only; omega) | exact LeS.le | exact LeS.add _ | (simp; done) | (simp; omega)) _ | refine Ext.setCell ?_ (by first | (dsimp only; omega) | exact LeS.le | exact LeS.add _ | (simp; done) | (simp; omega)) _))) hp).mono ?_; rintro e w' ⟨y2, rfl, ⟨z2, rfl⟩, o2⟩
  obtain ⟨q2, d2, rfl, _, _⟩ := (o2.sl encI_length).openc
  have O2 := Lib.hid o2; clear o2
  go_wp2_with fail
  refine bodyPost_ret (v := .agg #[.slice q0 t.base.length d0, .slice q1 bs.length d1, .slice q2 t.pr.length d2]) (by simp [results, Tryz.results16, go_sem]) rfl ?_
  have T : OT 64 54 106 3 (w.heap.size + 1 + 1 + 1) z2.val.heap.size z2.val (.slice q0 t.base.length d0) (.slice q1 bs.length d1) (.slice q2 t.pr.length d2) t.base bs t.pr :=
    ⟨z0.val.heap.size, z1.val.heap.size, by have := z0.ext.size; simpa using this, by have := z1.ext.size; rw [setCell_size] at this; exact this, by have := z2.ext.size; rw [setCell_size] at this; exact this,
      Own.lo ((((O0.out.setOld ⟨w.heap.size + 1 + 1, 0, none⟩ _ (by simp)).up z1.ext).setOld ⟨w.heap.size + 1 + 1, 1, none⟩ _ (by simp)).up z2.ext) (by simp), O0.out.under,
      OB.lo ((O1.out.setOld ⟨w.heap.size + 1 + 1, 1, none⟩ _ (by rw [setCell_size]; have := z0.ext.size; simp at this; show w.heap.size + 1 + 1 < _; omega)).up z2.ext) (by rw [setCell_size]; exact Nat.le_refl _), O1.out.1.under, O1.out.under,
      Own.lo O2.out (by rw [setCell_size]; exact Nat.le_refl _), O2.out.under⟩
  refine ⟨_, _, _, bs, rfl, (.of (by repeat (first | (with_reducible exact Ext.refl _) | (with_reducible refine Ext.up ?_ _) | (with_reducible refine Ext.alloc ?_ _) | (with_reducible refine Ext.drew ?_) | (with_reducible refine Ext.setRow ?_ (by first | exact LeS.le | exact LeS.add _ | (simp; done) | (simp; omega)) _) | (with_reducible refine Ext.setCell ?_ (by first | exact LeS.le | exact LeS.add _ | (simp; done) | (simp; omega)) _)))), hm, OT.mono (OT.setOld (OT.setOld (OT.setOld (OT.setOld T _ _ (by simp)) _ _ (by simp)) _ _ (by simp)) _ _ (by simp)) (by omega) (by simp [setCell_size])⟩
theorem Own.setApart {α : Type} {enc : α → List Value} {e sz lo : Nat} {w : World} {v : Value} {l : List α} (h : Own enc e sz lo w v l) {g : Nat} (i : Nat) (u : Value) (hap : v.ownBlock = none ∨ v.ownBlock ≠ some g) : Own enc e sz lo (w.setCell ⟨g, i, none⟩ u) v l :=
  h.kept (grownBy_set w ⟨g, i, none⟩ u) hap
theorem Keep.setCell {hi : Nat} {w w' : World} (h : Keep hi w w') {g : Nat} (i : Nat) (u : Value) (hg : g < hi) : Keep hi w (w'.setCell ⟨g, i, none⟩ u) :=
  h.trans ⟨(grownBy_set w' ⟨g, i, none⟩ u).size, fun k hk hs => (grownBy_set w' ⟨g, i, none⟩ u).block k hs (fun e => by
    have e' : k = g := by simpa using e
    omega)⟩
set_option maxHeartbeats 4000000 in
theorem markBlockS_weak (hi lo : Nat) (w0 w : World) (bs : List TB) (v : Value) (m : Int) (h : OB 54 106 lo w v bs) (hu : Under hi v) (hus : ∀ x ∈ bs, Under hi x.v) (hE : Ext w0 w) (hlo : w0.heap.size ≤ lo) (hm0 : 0 ≤ m) (hb : bs.length ≤ 1048576) (hm1 : m + 5 * bs.length + 4 * totA (bs.map TB.core) ≤ 900000000) :
    Calls Tryz.prog 56 #[v, .int .i64 m] w fun e w' => e = .returned (.int .i64 (m + 5 * bs.length + 4 * totA (bs.map TB.core))) ∧ Ext w0 w' ∧ Keep hi w w' := by
  obtain ⟨hrow, hdeep, hpw⟩ := h
  have hr0 : w.ownsRow lo 54 6 v bs.length (bs.flatMap TB.enc) := hrow
  rcases hrow.2 with ⟨rfl, hn0⟩ | ⟨g, cap, cur, hv, hlog, _⟩
  · have : bs = [] := List.eq_nil_of_length_eq_zero hn0
    subst this
    go_enter Tryz.func56, Tryz.ntmps56
    go_wp2
    refine wp_loop_rounds 1 ?_; rw [rounds_succ]
    go_wp2
    go_ret
    exact ⟨by simp [totA], hE, Keep.refl _ _⟩
  subst hv
  clear hrow
  have hg : g < hi := hu g rfl
  have hgl : w0.heap.size ≤ g := by omega
  go_enter Tryz.func56, Tryz.ntmps56
  go_wp2_with fail
  go_loopw [1, 5] (fun s1 s4 wr => ∃ (k : Nat) (mk : Int) (xs : List Value), s4 = .int .i64 k ∧ s1 = .int .i64 mk ∧ mk = m + 5 * k + 4 * totA ((bs.map TB.core).take k) ∧ k ≤ bs.length ∧ Ext w0 wr ∧ Keep hi w wr ∧ wr.ownsRow lo 54 6 (.slice (some ⟨g, 0, none⟩) bs.length cap) bs.length xs ∧ (∀ i x, bs[i]? = some x → xs[i * 6 + 3]? = some x.v) ∧ (∀ x ∈ bs, ∃ l', Own Actn.enc 106 4 lo wr x.v l' ∧ l'.length = x.l.length)) (fun _ s4 _ => bs.length - (intOf s4).toNat)
  case atStart => exact ⟨0, _, _, rfl, rfl, by simp [totA], Nat.zero_le _, hE, Keep.refl _ _, hr0, fun i x hx => flatMap_get TB.enc_length hx (j := 3) rfl, fun x hx => ⟨x.l, (hdeep x hx).1, rfl⟩⟩
  case round =>
    obtain ⟨k, mk, xs, rfl, rfl, hmk, hk, hEr, hK, hown, hptr, hd⟩ := hrel
    by_cases hlt : k < bs.length
    · obtain ⟨x, hxk⟩ := getElem?_some_of_lt hlt
      have hmem := List.mem_of_getElem? hxk
      obtain ⟨l', hl', hll⟩ := hd x hmem
      obtain ⟨pp, cc, hvv, _, _⟩ := (hl'.sl Actn.enc_length).openc
      have hsn := totA_snoc (cs := bs.map TB.core) (k := k) (x := x.core) (by simp [hxk])
      have htk := totA_le (bs.map TB.core) (k + 1)
      have hxx : x.core.2.length = x.l.length := rfl
      have hmk2 : mk + 5 + 4 * (l'.length : Int) ≤ 900000000 := by omega
      have hmk3 : 0 ≤ mk := by omega
      have hmkn : mk + 1 + 1 + 1 + 4 * (l'.length : Int) + 1 + 1 = m + 5 * ((k + 1 : Nat) : Int) + 4 * totA ((bs.map TB.core).take (k + 1)) := by omega
      have hxl : xs.length = bs.length * 6 := hown.1
      have hp3 := hptr k x hxk
      obtain ⟨u0, hu0⟩ := getElem?_some_of_lt (show k * 6 < xs.length by omega)
      obtain ⟨u1, hu1⟩ := getElem?_some_of_lt (show k * 6 + 1 < xs.length by omega)
      obtain ⟨u2, hu2⟩ := getElem?_some_of_lt (show k * 6 + 2 < xs.length by omega)
      have d0 : wr.cell? ⟨g, k * 6, none⟩ = some u0 := (hown.cellAt _ (by omega)).trans hu0
      have f0 := hown.frozenAt (k * 6)
      have d1 : wr.cell? ⟨g, k * 6 + 1, none⟩ = some u1 := (hown.cellAt _ (by omega)).trans hu1
      have f1 := hown.frozenAt (k * 6 + 1)
      have d2 : wr.cell? ⟨g, k * 6 + 2, none⟩ = some u2 := (hown.cellAt _ (by omega)).trans hu2
      have f2 := hown.frozenAt (k * 6 + 2)
      have d3 : wr.cell? ⟨g, k * 6 + 3, none⟩ = some x.v := (hown.cellAt _ (by omega)).trans hp3
      have hL : LtS g wr := LtS.of_some d0
      have hapg : x.v.ownBlock = none ∨ x.v.ownBlock ≠ some g := (hdeep x hmem).2
      have hal : ∀ y ∈ bs, y.v.ownBlock = none ∨ y.v.ownBlock ≠ some g := fun y hy => (hdeep y hy).2
      have hux := hus x hmem
      have Hpw := Lib.hid hpw; have Hus := Lib.hid hus; have Hux := Lib.hid hux; have Hxk := Lib.hid hxk; have Hown := Lib.hid hown; have Hxl := Lib.hid hxl; have Hptr := Lib.hid hptr; have Hd := Lib.hid hd; have HK := Lib.hid hK; have HE := Lib.hid hEr; have Hmkn := Lib.hid hmkn; have Hl := Lib.hid hl'; have Hap := Lib.hid hapg; have Hal := Lib.hid hal; have Hdeep := Lib.hid hdeep; have Hmem := Lib.hid hmem; have Hgl := Lib.hid hgl; have Hg := Lib.hid hg; have Hr0 := Lib.hid hr0; have Hll := Lib.hid hll
      have Hp3 := Lib.hid hp3
      have k0 : (0 : Int) ≤ (k : Int) := by omega
      clear hpw hus hux hxk hown hxl hptr hd hK hEr hmkn hl' hapg hal hdeep hmem hgl hg hr0 hp3 hmk hsn htk hxx hu0 hu1 hu2 hll
      rw [hvv] at d3
      go_wp2_with fail
      have hl3 := Own.setApart (Own.setApart (Own.setApart Hl.out (k * 6) (.int .i64 mk) Hap.out) (k * 6 + 1) (.int .i64 (mk + 1)) Hap.out) (k * 6 + 2) (.int .i64 (mk + 1 + 1)) Hap.out
      rw [hvv] at hl3
      refine (markActionS_any lo l' (.slice pp l'.length cc) (mk + 1 + 1 + 1) _ hl3 (by omega) (by omega) (by omega)).mono ?_; rintro e w' ⟨rfl, hg2, om⟩
      have R3 := ownsRow_setAll [.int .i64 mk, .int .i64 (mk + 1), .int .i64 (mk + 1 + 1)] (k * 6) Hown.out
      have hgl3 := fun j hj => (World.ownsRow.lt hl3 j hj).1
      rw [← hvv] at hg2 om hgl3
      have R4 := World.ownsRow.kept R3 hg2 (Apart.symm (v := x.v) (v' := .slice (some ⟨g, 0, none⟩) bs.length cap) Hap.out)
      have hx3 : (setAll xs (k * 6) [.int .i64 mk, .int .i64 (mk + 1), .int .i64 (mk + 1 + 1)]).length = bs.length * 6 := by rw [setAll_length]; exact Hxl.out
      obtain ⟨u4, hu4⟩ := getElem?_some_of_lt (l := setAll xs (k * 6) [.int .i64 mk, .int .i64 (mk + 1), .int .i64 (mk + 1 + 1)]) (k := k * 6 + 4) (by omega)
      obtain ⟨u5, hu5⟩ := getElem?_some_of_lt (l := setAll xs (k * 6) [.int .i64 mk, .int .i64 (mk + 1), .int .i64 (mk + 1 + 1)]) (k := k * 6 + 5) (by omega)
      have d4 : w'.cell? ⟨g, k * 6 + 4, none⟩ = some u4 := (R4.cellAt _ (by omega)).trans hu4
      have f4 := R4.frozenAt (k * 6 + 4)
      have d5 : w'.cell? ⟨g, k * 6 + 5, none⟩ = some u5 := (R4.cellAt _ (by omega)).trans hu5
      have f5 := R4.frozenAt (k * 6 + 5)
      have hL4 : LtS g w' := LtS.of_some d4
      have HE3 := Lib.hid ((((HE.out.setCell (p := ⟨g, k * 6, none⟩) Hgl.out (.int .i64 mk)).setCell (p := ⟨g, k * 6 + 1, none⟩) Hgl.out (.int .i64 (mk + 1))).setCell (p := ⟨g, k * 6 + 2, none⟩) Hgl.out (.int .i64 (mk + 1 + 1))).grown hg2 fun j hj => Nat.le_trans hlo (hgl3 j hj))
      have HK3 := Lib.hid ((((HK.out.setCell (k * 6) (.int .i64 mk) Hg.out).setCell (k * 6 + 1) (.int .i64 (mk + 1)) Hg.out).setCell (k * 6 + 2) (.int .i64 (mk + 1 + 1)) Hg.out).trans (Keep.grown hg2 Hux.out))
      have HR4 := Lib.hid R4; have HX3 := Lib.hid hx3; have Om := Lib.hid om; have Hg2 := Lib.hid hg2
      clear R3 R4 hx3 om hg2 hgl3 hu4 hu5 hl3
      go_wp2_with fail
      go_roundw
      case rel =>
        refine ⟨k + 1, _, setAll (setAll xs (k * 6) [.int .i64 mk, .int .i64 (mk + 1), .int .i64 (mk + 1 + 1)]) (k * 6 + 4) [.int .i64 (mk + 1 + 1 + 1 + 4 * l'.length), .int .i64 (mk + 1 + 1 + 1 + 4 * l'.length + 1)], by go_num, rfl, Hmkn.out, by omega, (HE3.out.setCell Hgl.out _).setCell Hgl.out _, (HK3.out.setCell _ _ Hg.out).setCell _ _ Hg.out, ownsRow_setAll [.int .i64 (mk + 1 + 1 + 1 + 4 * l'.length), .int .i64 (mk + 1 + 1 + 1 + 4 * l'.length + 1)] (k * 6 + 4) HR4.out, ?_, ?_⟩
        · intro i y hy
          have hib : i < bs.length := (List.getElem?_eq_some_iff.1 hy).1
          have hxl := Hxl.out
          rw [setAll_get _ _ _ _ (by rw [setAll_length]; simp; omega), if_neg (by simp; omega), setAll_get _ _ _ _ (by simp; omega), if_neg (by simp; omega)]
          exact Hptr.out i y hy
        · intro y hy
          obtain ⟨j, hj⟩ := List.getElem?_of_mem hy
          by_cases hjk : j = k
          · subst hjk
            have e : y = x := by have h1 := Hxk.out; rw [hj] at h1; cases h1; rfl
            subst e
            refine ⟨_, Own.setApart (Own.setApart Om.out _ _ Hap.out) _ _ Hap.out, by rw [marksActn_length]; exact Hll.out⟩
          · obtain ⟨l2, ho2, hl2⟩ := Hd.out y hy
            have hya := Hal.out y hy
            have hyx : Apart y.v x.v := by
              have hp := Hpw.out
              rw [List.pairwise_iff_getElem] at hp
              obtain ⟨j1, j2⟩ := List.getElem?_eq_some_iff.1 hj
              obtain ⟨k1, k2⟩ := List.getElem?_eq_some_iff.1 Hxk.out
              rcases Nat.lt_or_gt_of_ne hjk with h3 | h3
              · have := hp j k j1 k1 h3; rw [j2, k2] at this; exact this
              · have := hp k j k1 j1 h3; rw [j2, k2] at this; exact this.symm
            exact ⟨l2, Own.setApart (Own.setApart (Own.keep (Own.setApart (Own.setApart (Own.setApart ho2 _ _ hya) _ _ hya) _ _ hya) Hg2.out hyx) _ _ hya) _ _ hya, hl2⟩
      case measure => simp [intOf]; omega
    · go_wp2_with fail
      go_ret
      obtain rfl : k = bs.length := by omega
      refine ⟨by rw [hmk, List.take_of_length_le (by simp)]; rfl, hEr, hK⟩
set_option maxHeartbeats 1000000 in
theorem markBlockTree_weak (lo hi : Nat) (w0 w : World) (base : List Ent) (bs : List TB) (pr : List Int) (v0 v1 v2 : Value) (m : Int) (h : OT 64 54 106 3 lo hi w v0 v1 v2 base bs pr) (hE : Ext w0 w) (hlo : w0.heap.size ≤ lo) (hm0 : 0 ≤ m) (hm1 : m ≤ 1000) (hb : base.length ≤ 1048576) (hs : bs.length ≤ 1048576) (ha : totA (bs.map TB.core) ≤ 1048576) (hp : pr.length ≤ 1048576) (hhi : hi ≤ w.heap.size) :
    Calls Tryz.prog 19 #[.agg #[v0, v1, v2], .int .i64 m] w fun e w' => ∃ n : Int, e = .returned (.int .i64 n) ∧ 0 ≤ n ∧ Ext w0 w' ∧ Keep hi w w' := by
  obtain ⟨s1, s2, h1, h2, h3, o0, u0, o1, u1, ux, o2, u2⟩ := h
  obtain ⟨p0, c0, rfl, _, _⟩ := (o0.sl Ent.enc_length).openc
  obtain ⟨p1, c1, rfl, _, _⟩ := (o1.1.sl TB.enc_length).openc
  obtain ⟨p2, c2, rfl, _, _⟩ := (o2.sl encI_length).openc
  have a10 := Lib.hid (o1.1.apartU u0 (Nat.le_refl _))
  have a1x := Lib.hid (fun x (hx : x ∈ bs) => (o1.2.1 x hx).1.apartU u0 (Nat.le_refl _))
  have a20 := Lib.hid (o2.apartU u0 h2)
  have O0 := Lib.hid o0; have O1 := Lib.hid o1; have O2 := Lib.hid o2; have U0 := Lib.hid u0; have U1 := Lib.hid u1; have U2 := Lib.hid u2; have UX := Lib.hid ux; have HE := Lib.hid hE
  clear o0 o1 o2 u0 u1 u2 ux hE
  go_enter Tryz.func19, Tryz.ntmps19
  go_wp2_with fail
  refine (markEntryS_any lo base _ m _ (O0.out.up (by repeat (first | exact Ext.refl _ | refine Ext.up ?_ _ | refine Ext.alloc ?_ _ | refine Ext.drew ?_ | refine Ext.setRow ?_ (by first | (dsimp only; omega) | exact LeS.le | exact LeS.add _ | (simp; done) | (simp; omega)) _ | refine Ext.setCell ?_ (by first | (dsimp only; omega) | exact LeS.le | exact LeS.add _ | (simp; done) | (simp; omega)) _))) (by omega) (by omega) (by omega)).mono ?_; rintro e w1 ⟨rfl, hg1, _⟩
  have E1 := Lib.hid ((HE.out.trans ((Ext.refl w).alloc _)).grown hg1 fun j hj => Nat.le_trans hlo (World.ownsRow.lt O0.out j hj).1)
  have K1 := Lib.hid (Keep.trans (⟨by simp, fun k _ hk => by rw [((Ext.refl w).alloc _).block hk]⟩ : Keep hi w _) (Keep.grown hg1 (U0.out.le (Nat.le_trans h2 h3))))
  have B1 := Lib.hid (show OB 54 106 s1 w1 _ bs from ⟨Own.keep ((O1.out.1).up ((Ext.refl _).alloc _)) hg1 a10.out, fun x hx => ⟨Own.keep ((O1.out.2.1 x hx).1.up ((Ext.refl _).alloc _)) hg1 (a1x.out x hx), (O1.out.2.1 x hx).2⟩, O1.out.2.2⟩)
  have P1 := Lib.hid (Own.keep (O2.out.up ((Ext.refl _).alloc _)) hg1 a20.out)
  have r1 := ((hg1.block w.heap.size (by simp) (by
    intro e
    have := (World.ownsRow.lt O0.out _ e.symm).2
    omega)).trans (heap_alloc_new w _))
  have d1 : w1.cell? ⟨w.heap.size, 1, none⟩ = some (.slice p1 bs.length c1) := cell_of_row w1 w.heap.size 1 _ _ _ r1
  have L1 : LtS w.heap.size w1 := LtS.of_some d1
  have R1 := Lib.hid r1
  clear hg1 r1
  go_wp2_with fail
  refine (markBlockS_weak s2 s1 w0 w1 bs _ _ B1.out U1.out UX.out E1.out (Nat.le_trans hlo h1) (by omega) (by omega) (by omega)).mono ?_; rintro e w2 ⟨rfl, hE2, hK2⟩
  have r2 := (hK2.2 w.heap.size (by omega) L1.lt).trans R1.out
  have d2 : w2.cell? ⟨w.heap.size, 2, none⟩ = some (.slice p2 pr.length c2) := cell_of_row w2 w.heap.size 2 _ _ _ r2
  have L2 : LtS w.heap.size w2 := LtS.of_some d2
  have P2 := Lib.hid (Own.keepHi P1.out hK2 (Nat.le_refl _))
  have E2 := Lib.hid hE2
  have K2 := Lib.hid (K1.out.trans (Keep.mono hK2 h3))
  clear r2 hE2 hK2
  go_wp2_with fail
  refine (markIntS_any s2 pr _ _ _ P2.out (by omega) (by omega) (by omega)).mono ?_; rintro e w3 ⟨rfl, hg3, _⟩
  have E3 := Lib.hid (E2.out.grown hg3 fun j hj => Nat.le_trans (Nat.le_trans hlo (Nat.le_trans h1 h2)) (World.ownsRow.lt P2.out j hj).1)
  have K3 := Lib.hid (K2.out.trans (Keep.grown hg3 U2.out))
  clear hg3
  go_wp2_with fail
  go_ret
  exact ⟨_, rfl, by omega, E3.out, K3.out⟩
end Go.Proofs.YteiemjebdhmnaaaGreat
namespace Go.Proofs.YteiemjebdhmnaaaGreat
open Go Go.RowKit Go.Proofs

end Go.Proofs.YteiemjebdhmnaaaGreat
namespace Go.Proofs.YteiemjebdhmnaaaGreat
open Go Go.RowKit Go.Proofs

theorem pathR_le (t : Tree) (n : Int) : (pathR t n).length ≤ t.bs.length := by
  unfold pathR
  split
  · rw [pathB, List.length_reverse]; exact climb_le _ _ _
  · simp
end Go.Proofs.YteiemjebdhmnaaaGreat
