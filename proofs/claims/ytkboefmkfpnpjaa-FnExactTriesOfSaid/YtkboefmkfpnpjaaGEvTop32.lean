/- Walks: the laws' copies of engines. The laws of engines: walks. -/
import Derived.Test.YtkboefmkfpnpjaaGEvTop31
import Derived.Test.YtkboefmkfpnpjaaGEvTop30
set_option linter.unusedSimpArgs false
set_option linter.unusedVariables false
namespace Go.Proofs.Ytkboefmkfpnpjaa
open Go Go.RowKit Go.Proofs

set_option maxHeartbeats 2000000 in
theorem toEffect_own (x : Eff) (vr vw : Value) (w : World) (h1 : SL (RF Ent.enc) 2 w vr x.r) (h2 : SL (RF Ent.enc) 2 w vw x.w) (n1 : x.r.length ≤ 1048576) (n2 : x.w.length ≤ 1048576) :
    Calls Try.prog 188 #[.agg #[.bool x.d, vr, vw]] w fun e w' => ∃ vr' vw', e = .returned (.agg #[.bool x.d, vr', vw']) ∧ Up w w' ∧ Own Ent.enc 31 2 w.heap.size w' vr' x.r ∧ Own Ent.enc 31 2 w.heap.size w' vw' x.w := by
  have H1 := Lib.hid h1; have H2 := Lib.hid h2
  obtain ⟨p1, c1, rfl, _, _⟩ := h1.openc
  obtain ⟨p2, c2, rfl, _, _⟩ := h2.openc
  clear h1 h2
  go_enter Try.func188, Try.ntmps188
  go_wp2_with fail
  refine (toEntryS_any x.r _ _ (H1.out.up (by repeat (first | (with_reducible exact Ext.refl _) | (with_reducible refine Ext.up ?_ _) | (with_reducible refine Ext.alloc ?_ _) | (with_reducible refine Ext.drew ?_) | (with_reducible refine Ext.setRow ?_ (by first | exact LeS.le | exact LeS.add _ | (simp; done) | (simp; omega)) _) | (with_reducible refine Ext.setCell ?_ (by first | exact LeS.le | exact LeS.add _ | (simp; done) | (simp; omega)) _)))) n1).mono ?_; rintro e w' ⟨v1, rfl, ⟨z1, rfl⟩, o1⟩
  obtain ⟨q1, d1, rfl, _, _⟩ := (o1.sl Ent.enc_length).openc
  have O1 := Lib.hid (Own.lo o1 (show w.heap.size + 3 ≤ _ by simp)); clear o1
  have hz1 := z1.ext.size
  simp at hz1
  go_wp2_with fail
  refine (toEntryS_any x.w _ _ (H2.out.up (by repeat (first | (with_reducible exact Ext.refl _) | (with_reducible refine Ext.up ?_ _) | (with_reducible refine Ext.alloc ?_ _) | (with_reducible refine Ext.drew ?_) | (with_reducible refine Ext.setRow ?_ (by first | exact LeS.le | exact LeS.add _ | (simp; done) | (simp; omega)) _) | (with_reducible refine Ext.setCell ?_ (by first | exact LeS.le | exact LeS.add _ | (simp; done) | (simp; omega)) _)))) n2).mono ?_; rintro e w' ⟨v2, rfl, ⟨z2, rfl⟩, o2⟩
  obtain ⟨q2, d2, rfl, _, _⟩ := (o2.sl Ent.enc_length).openc
  have O2 := Lib.hid (Own.lo o2 (show w.heap.size + 3 ≤ _ by first | (simp; omega) | (simp [setCell_size]; omega))); clear o2
  go_wp2_with fail
  refine bodyPost_ret (v := .agg #[.bool x.d, .slice q1 x.r.length d1, .slice q2 x.w.length d2]) (by simp [results, Try.results188, go_sem]) rfl ?_
  refine ⟨_, _, rfl, (.of (by repeat (first | (with_reducible exact Ext.refl _) | (with_reducible refine Ext.up ?_ _) | (with_reducible refine Ext.alloc ?_ _) | (with_reducible refine Ext.drew ?_) | (with_reducible refine Ext.setRow ?_ (by first | exact LeS.le | exact LeS.add _ | (simp; done) | (simp; omega)) _) | (with_reducible refine Ext.setCell ?_ (by first | exact LeS.le | exact LeS.add _ | (simp; done) | (simp; omega)) _)))), Own.lo (lo := w.heap.size + 3) ?_ (by omega), Own.lo (lo := w.heap.size + 3) ?_ (by omega)⟩
  · repeat (first | (with_reducible exact O1.out) | (with_reducible refine Own.setOld ?_ _ _ (by first | (simp; done) | (simp; omega) | omega)) | (with_reducible refine Own.up ?_ z2.ext))
  · repeat (first | (with_reducible exact O2.out) | (with_reducible refine Own.setOld ?_ _ _ (by first | (simp; done) | (simp; omega) | omega)))
set_option maxHeartbeats 2000000 in
theorem toSlot_own (t : Slt) (vf vr vw : Value) (w : World) (h0 : SL (RF encI) 1 w vf t.f) (h1 : SL (RF Ent.enc) 2 w vr t.e.r) (h2 : SL (RF Ent.enc) 2 w vw t.e.w) (n0 : t.f.length ≤ 1048576) (n1 : t.e.r.length ≤ 1048576) (n2 : t.e.w.length ≤ 1048576) :
    Calls Try.prog 155 #[.agg #[.int .i64 t.st, .int .i64 t.tr, vf, .bool t.e.d, vr, vw]] w fun e w' => ∃ vf' vr' vw', e = .returned (.agg #[.int .i64 t.st, .int .i64 t.tr, vf', .bool t.e.d, vr', vw']) ∧ Up w w' ∧ Own encI 3 1 w.heap.size w' vf' t.f ∧ Own Ent.enc 31 2 w.heap.size w' vr' t.e.r ∧ Own Ent.enc 31 2 w.heap.size w' vw' t.e.w := by
  have H0 := Lib.hid h0; have H1 := Lib.hid h1; have H2 := Lib.hid h2
  obtain ⟨p0, c0, rfl, _, _⟩ := h0.openc
  obtain ⟨p1, c1, rfl, _, _⟩ := h1.openc
  obtain ⟨p2, c2, rfl, _, _⟩ := h2.openc
  clear h0 h1 h2
  go_enter Try.func155, Try.ntmps155
  go_wp2_with fail
  refine (toIntS_any t.f _ _ (H0.out.up (by repeat (first | (with_reducible exact Ext.refl _) | (with_reducible refine Ext.up ?_ _) | (with_reducible refine Ext.alloc ?_ _) | (with_reducible refine Ext.drew ?_) | (with_reducible refine Ext.setRow ?_ (by first | exact LeS.le | exact LeS.add _ | (simp; done) | (simp; omega)) _) | (with_reducible refine Ext.setCell ?_ (by first | exact LeS.le | exact LeS.add _ | (simp; done) | (simp; omega)) _)))) n0).mono ?_; rintro e w' ⟨v1, rfl, ⟨z1, rfl⟩, o1⟩
  obtain ⟨q0, d0, rfl, _, _⟩ := (o1.sl encI_length).openc
  have O1 := Lib.hid (Own.lo o1 (show w.heap.size + 3 ≤ _ by first | (simp; done) | (simp [setCell_size]; done))); clear o1
  have hz1 := z1.ext.size
  simp [setCell_size] at hz1
  go_wp2_with fail
  refine (toEffect_own t.e _ _ _ (H1.out.up (by repeat (first | (with_reducible exact Ext.refl _) | (with_reducible refine Ext.up ?_ _) | (with_reducible refine Ext.alloc ?_ _) | (with_reducible refine Ext.drew ?_) | (with_reducible refine Ext.setRow ?_ (by first | exact LeS.le | exact LeS.add _ | (simp; done) | (simp; omega)) _) | (with_reducible refine Ext.setCell ?_ (by first | exact LeS.le | exact LeS.add _ | (simp; done) | (simp; omega)) _)))) (H2.out.up (by repeat (first | (with_reducible exact Ext.refl _) | (with_reducible refine Ext.up ?_ _) | (with_reducible refine Ext.alloc ?_ _) | (with_reducible refine Ext.drew ?_) | (with_reducible refine Ext.setRow ?_ (by first | exact LeS.le | exact LeS.add _ | (simp; done) | (simp; omega)) _) | (with_reducible refine Ext.setCell ?_ (by first | exact LeS.le | exact LeS.add _ | (simp; done) | (simp; omega)) _)))) n1 n2).mono ?_; rintro e w' ⟨v2, v3, rfl, ⟨z2, rfl⟩, o2, o3⟩
  obtain ⟨q1, d1, rfl, _, _⟩ := (o2.sl Ent.enc_length).openc
  obtain ⟨q2, d2, rfl, _, _⟩ := (o3.sl Ent.enc_length).openc
  have O2 := Lib.hid (Own.lo o2 (show w.heap.size + 3 ≤ _ by first | (simp; omega) | (simp [setCell_size]; omega))); clear o2
  have O3 := Lib.hid (Own.lo o3 (show w.heap.size + 3 ≤ _ by first | (simp; omega) | (simp [setCell_size]; omega))); clear o3
  go_wp2_with fail
  refine bodyPost_ret (v := .agg #[.int .i64 t.st, .int .i64 t.tr, .slice q0 t.f.length d0, .bool t.e.d, .slice q1 t.e.r.length d1, .slice q2 t.e.w.length d2]) (by simp [results, Try.results155, go_sem]) rfl ?_
  refine ⟨_, _, _, rfl, (.of (by repeat (first | (with_reducible exact Ext.refl _) | (with_reducible refine Ext.up ?_ _) | (with_reducible refine Ext.alloc ?_ _) | (with_reducible refine Ext.drew ?_) | (with_reducible refine Ext.setRow ?_ (by first | exact LeS.le | exact LeS.add _ | (simp; done) | (simp; omega)) _) | (with_reducible refine Ext.setCell ?_ (by first | exact LeS.le | exact LeS.add _ | (simp; done) | (simp; omega)) _)))), Own.lo (lo := w.heap.size + 3) ?_ (by omega), Own.lo (lo := w.heap.size + 3) ?_ (by omega), Own.lo (lo := w.heap.size + 3) ?_ (by omega)⟩
  · repeat (first | (with_reducible exact O1.out) | (with_reducible refine Own.setOld ?_ _ _ (by first | (simp; done) | (simp; omega) | omega)) | (with_reducible refine Own.up ?_ z2.ext))
  · repeat (first | (with_reducible exact O2.out) | (with_reducible refine Own.setOld ?_ _ _ (by first | (simp; done) | (simp; omega) | omega)))
  · repeat (first | (with_reducible exact O3.out) | (with_reducible refine Own.setOld ?_ _ _ (by first | (simp; done) | (simp; omega) | omega)))
set_option maxRecDepth 100000 in
set_option maxHeartbeats 4000000 in
theorem toSlotS_own (l : List Slt) (v : Value) (w : World) (h : SS w v l) (hn : l.length ≤ 1048576) (ha : totS l ≤ 1048576) :
    Calls Try.prog 115 #[v] w fun e w' => ∃ v', e = .returned v' ∧ Up w w' ∧ OSl w.heap.size w' v' l := by
  obtain ⟨a, cap, rfl, hlen, hc⟩ := h.open
  have HC := Lib.hid hc
  clear h hc
  go_enter Try.func115, Try.ntmps115
  go_wp2_with (at_make; refine wpList_mk fSlt rfl _ _ rfl l.length rfl rfl (by omega) (by omega) (Ext.refl _) ?_; intro z0 xs0 hown0)
  go_loopw [4] (fun s4 wr => ∃ (k : Nat) (xs : List Value) (ts : List TS), s4 = .int .i64 k ∧ k ≤ l.length ∧ Up w wr ∧ wr.ownsRow w.heap.size 90 6 (.slice (some ⟨w.heap.size, 0, none⟩) l.length l.length) l.length xs ∧ Filled TS.enc 6 ts k xs ∧ ts.map TS.core = l.take k ∧ ts.length = k ∧ (∀ x ∈ ts, Own encI 3 1 (w.heap.size + 1) wr x.vf x.f ∧ Own Ent.enc 31 2 (w.heap.size + 1) wr x.vr x.r ∧ Own Ent.enc 31 2 (w.heap.size + 1) wr x.vw x.w)) (fun s4 _ => l.length - (intOf s4).toNat)
  case atStart => exact ⟨0, xs0, [], rfl, Nat.zero_le _, ⟨z0, rfl⟩, hown0, Filled.zero _ _ _ _, rfl, rfl, by simp⟩
  case round =>
    obtain ⟨k, xs, ts, rfl, hk, ⟨z, rfl⟩, hown, hfill, hmap, hbl, hdeep⟩ := hrel
    by_cases hlt : k < l.length
    · obtain ⟨t, ht⟩ := getElem?_some_of_lt hlt
      obtain ⟨b, off, y0, g0, y1, g1, y2, g2, rfl, hb, ⟨c0, c1, c2, c3, c4, c5⟩, s0, s1, s2⟩ := HC.out k t ht
      have hxl : xs.length = l.length * 6 := hown.1
      obtain ⟨u0, hu0⟩ := getElem?_some_of_lt (show k * 6 < xs.length by omega)
      obtain ⟨u1, hu1⟩ := getElem?_some_of_lt (show k * 6 + 1 < xs.length by omega)
      obtain ⟨u2, hu2⟩ := getElem?_some_of_lt (show k * 6 + 2 < xs.length by omega)
      obtain ⟨u3, hu3⟩ := getElem?_some_of_lt (show k * 6 + 3 < xs.length by omega)
      obtain ⟨u4, hu4⟩ := getElem?_some_of_lt (show k * 6 + 4 < xs.length by omega)
      obtain ⟨u5, hu5⟩ := getElem?_some_of_lt (show k * 6 + 5 < xs.length by omega)
      have d0 : z.val.cell? ⟨w.heap.size, k * 6, none⟩ = some u0 := (hown.cellAt _ (by omega)).trans hu0
      have f0 := hown.frozenAt (k * 6)
      have d1 : z.val.cell? ⟨w.heap.size, k * 6 + 1, none⟩ = some u1 := (hown.cellAt _ (by omega)).trans hu1
      have f1 := hown.frozenAt (k * 6 + 1)
      have d2 : z.val.cell? ⟨w.heap.size, k * 6 + 2, none⟩ = some u2 := (hown.cellAt _ (by omega)).trans hu2
      have f2 := hown.frozenAt (k * 6 + 2)
      have d3 : z.val.cell? ⟨w.heap.size, k * 6 + 3, none⟩ = some u3 := (hown.cellAt _ (by omega)).trans hu3
      have f3 := hown.frozenAt (k * 6 + 3)
      have d4 : z.val.cell? ⟨w.heap.size, k * 6 + 4, none⟩ = some u4 := (hown.cellAt _ (by omega)).trans hu4
      have f4 := hown.frozenAt (k * 6 + 4)
      have d5 : z.val.cell? ⟨w.heap.size, k * 6 + 5, none⟩ = some u5 := (hown.cellAt _ (by omega)).trans hu5
      have f5 := hown.frozenAt (k * 6 + 5)
      have hL : LtS w.heap.size z.val := LtS.of_some d0
      have hxa := Nat.le_trans (totS_mem (List.mem_of_getElem? ht)) ha
      have S0 := Lib.hid s0; have S1 := Lib.hid s1; have S2 := Lib.hid s2; have HT := Lib.hid ht
      have Hown := Lib.hid hown; have Hf := Lib.hid hfill; have Hxl := Lib.hid hxl; have Hmap := Lib.hid hmap; have Hdeep := Lib.hid hdeep; have Hbl := Lib.hid hbl
      have k0 : (0 : Int) ≤ (k : Int) := by omega
      have k1 : (k : Int) < l.length := by omega
      have m0 : t.f.length ≤ 1048576 := by omega
      have m1 : t.e.r.length ≤ 1048576 := by omega
      have m2 : t.e.w.length ≤ 1048576 := by omega
      clear ht s0 s1 s2 hown hfill hxl hmap hdeep hbl hu0 hu1 hu2 hu3 hu4 hu5 hxa
      go_wp2_with fail
      refine (toSlot_own t _ _ _ _ (S0.out.up (by repeat (first | (with_reducible exact Ext.refl _) | (with_reducible refine Ext.up ?_ _) | (with_reducible refine Ext.alloc ?_ _) | (with_reducible refine Ext.drew ?_) | (with_reducible refine Ext.setRow ?_ (by first | exact LeS.le | exact LeS.add _ | (simp; done) | (simp; omega)) _) | (with_reducible refine Ext.setCell ?_ (by first | exact LeS.le | exact LeS.add _ | (simp; done) | (simp; omega)) _)))) (S1.out.up (by repeat (first | (with_reducible exact Ext.refl _) | (with_reducible refine Ext.up ?_ _) | (with_reducible refine Ext.alloc ?_ _) | (with_reducible refine Ext.drew ?_) | (with_reducible refine Ext.setRow ?_ (by first | exact LeS.le | exact LeS.add _ | (simp; done) | (simp; omega)) _) | (with_reducible refine Ext.setCell ?_ (by first | exact LeS.le | exact LeS.add _ | (simp; done) | (simp; omega)) _)))) (S2.out.up (by repeat (first | (with_reducible exact Ext.refl _) | (with_reducible refine Ext.up ?_ _) | (with_reducible refine Ext.alloc ?_ _) | (with_reducible refine Ext.drew ?_) | (with_reducible refine Ext.setRow ?_ (by first | exact LeS.le | exact LeS.add _ | (simp; done) | (simp; omega)) _) | (with_reducible refine Ext.setCell ?_ (by first | exact LeS.le | exact LeS.add _ | (simp; done) | (simp; omega)) _)))) m0 m1 m2).mono ?_; rintro e w' ⟨v0, v1, v2, rfl, ⟨z1, rfl⟩, o0, o1, o2⟩
      obtain ⟨p0, r0, rfl, _, _⟩ := (o0.sl encI_length).openc
      obtain ⟨p1, r1, rfl, _, _⟩ := (o1.sl Ent.enc_length).openc
      obtain ⟨p2, r2, rfl, _, _⟩ := (o2.sl Ent.enc_length).openc
      have hlo : w.heap.size + 1 ≤ z.val.heap.size := hL.lt
      have O0 := Lib.hid (Own.lo o0 hlo); have O1 := Lib.hid (Own.lo o1 hlo); have O2 := Lib.hid (Own.lo o2 hlo)
      clear o0 o1 o2
      go_wp2_with fail
      go_roundw
      case rel =>
        refine ⟨k + 1, setAll xs (k * 6) (TS.enc ⟨t.st, t.tr, .slice p0 t.f.length r0, t.e.d, .slice p1 t.e.r.length r1, .slice p2 t.e.w.length r2, t.f, t.e.r, t.e.w⟩), ts ++ [⟨t.st, t.tr, .slice p0 t.f.length r0, t.e.d, .slice p1 t.e.r.length r1, .slice p2 t.e.w.length r2, t.f, t.e.r, t.e.w⟩], by go_num, by omega, .of (Ext.setAll (Nat.le_refl _) (TS.enc ⟨t.st, t.tr, .slice p0 t.f.length r0, t.e.d, .slice p1 t.e.r.length r1, .slice p2 t.e.w.length r2, t.f, t.e.r, t.e.w⟩) _ ((Ext.up (Ext.refl _) z).up z1)), ownsRow_setAll (TS.enc ⟨t.st, t.tr, .slice p0 t.f.length r0, t.e.d, .slice p1 t.e.r.length r1, .slice p2 t.e.w.length r2, t.f, t.e.r, t.e.w⟩) _ (ownsRow_up Hown.out z1.ext), Hf.out.snoc TS.enc_length _ Hbl.out (by have := Hxl.out; omega), ?_, by rw [List.length_append, Hbl.out]; rfl, ?_⟩
        · rw [List.map_append, Hmap.out, List.take_add_one, HT.out]; rfl
        · intro y hy
          rcases List.mem_append.1 hy with hy | hy
          · obtain ⟨a0, a1, a2⟩ := Hdeep.out y hy
            exact ⟨Own.setAllOld (Nat.lt_succ_self _) (TS.enc ⟨t.st, t.tr, .slice p0 t.f.length r0, t.e.d, .slice p1 t.e.r.length r1, .slice p2 t.e.w.length r2, t.f, t.e.r, t.e.w⟩) _ (a0.up z1.ext), Own.setAllOld (Nat.lt_succ_self _) (TS.enc ⟨t.st, t.tr, .slice p0 t.f.length r0, t.e.d, .slice p1 t.e.r.length r1, .slice p2 t.e.w.length r2, t.f, t.e.r, t.e.w⟩) _ (a1.up z1.ext), Own.setAllOld (Nat.lt_succ_self _) (TS.enc ⟨t.st, t.tr, .slice p0 t.f.length r0, t.e.d, .slice p1 t.e.r.length r1, .slice p2 t.e.w.length r2, t.f, t.e.r, t.e.w⟩) _ (a2.up z1.ext)⟩
          · simp only [List.mem_singleton] at hy
            subst hy
            exact ⟨Own.setAllOld (Nat.lt_succ_self _) (TS.enc ⟨t.st, t.tr, .slice p0 t.f.length r0, t.e.d, .slice p1 t.e.r.length r1, .slice p2 t.e.w.length r2, t.f, t.e.r, t.e.w⟩) _ O0.out, Own.setAllOld (Nat.lt_succ_self _) (TS.enc ⟨t.st, t.tr, .slice p0 t.f.length r0, t.e.d, .slice p1 t.e.r.length r1, .slice p2 t.e.w.length r2, t.f, t.e.r, t.e.w⟩) _ O1.out, Own.setAllOld (Nat.lt_succ_self _) (TS.enc ⟨t.st, t.tr, .slice p0 t.f.length r0, t.e.d, .slice p1 t.e.r.length r1, .slice p2 t.e.w.length r2, t.f, t.e.r, t.e.w⟩) _ O2.out⟩
      case measure => simp [intOf]; omega
    · go_wp2_with fail
      go_ret
      obtain rfl : k = l.length := by omega
      have e := Filled.all (l := ts) TS.enc_length (by rw [hbl]; exact hown.1) (by rw [hbl]; exact hfill)
      subst e
      have hrow : Own TS.enc 90 6 w.heap.size z.val (.slice (some ⟨w.heap.size, 0, none⟩) l.length l.length) ts := by
        show World.ownsRow _ _ _ _ _ _ _
        rw [hbl]; exact hown
      exact ⟨_, rfl, ⟨z, rfl⟩, ts, by rw [hmap, List.take_length], hrow, fun x hx => ⟨Own.lo (hdeep x hx).1 (by omega), Own.lo (hdeep x hx).2.1 (by omega), Own.lo (hdeep x hx).2.2 (by omega)⟩⟩
set_option maxHeartbeats 4000000 in
theorem toEngine_any (g : Eng) (v0 v1 v2 v3 : Value) (w : World) (h : SG w v0 v1 v2 v3 g) (n0 : g.base.length ≤ 1048576) (n1 : g.acts.length ≤ 1048576) (n2 : g.vers.length ≤ 1048576) (n3 : g.sl.length ≤ 1048576) (n4 : totS g.sl ≤ 1048576) :
    Calls Try.prog 50 #[.agg #[v0, v1, v2, v3]] w fun e w' => ∃ u0 u1 u2 u3, e = .returned (.agg #[u0, u1, u2, u3]) ∧ Up w w' ∧ SG w' u0 u1 u2 u3 g := by
  have HG := Lib.hid h
  obtain ⟨p0, c0, rfl, _, _⟩ := h.base.openc
  obtain ⟨p1, c1, rfl, _, _⟩ := h.acts.openc
  obtain ⟨p2, c2, rfl, _, _⟩ := h.vers.openc
  obtain ⟨p3, c3, rfl, _, -⟩ := h.sl.open
  clear h
  go_enter Try.func50, Try.ntmps50
  go_wp2_with fail
  refine (toEntryS_any g.base _ _ (HG.out.base.up (by repeat (first | (with_reducible exact Ext.refl _) | (with_reducible refine Ext.up ?_ _) | (with_reducible refine Ext.alloc ?_ _) | (with_reducible refine Ext.drew ?_) | (with_reducible refine Ext.setRow ?_ (by first | exact LeS.le | exact LeS.add _ | (simp; done) | (simp; omega)) _) | (with_reducible refine Ext.setCell ?_ (by first | exact LeS.le | exact LeS.add _ | (simp; done) | (simp; omega)) _)))) n0).mono ?_; rintro e w' ⟨y0, rfl, ⟨z0, rfl⟩, o0⟩
  obtain ⟨q0, d0, rfl, _, _⟩ := (o0.sl Ent.enc_length).openc
  have O0 := Lib.hid (Own.lo o0 (show w.heap.size + 3 ≤ _ by first | (simp; done) | (simp [setCell_size]; done))); clear o0
  have hz0 := z0.ext.size
  simp [setCell_size] at hz0
  go_wp2_with fail
  refine (toActionS_any g.acts _ _ (HG.out.acts.up (by repeat (first | (with_reducible exact Ext.refl _) | (with_reducible refine Ext.up ?_ _) | (with_reducible refine Ext.alloc ?_ _) | (with_reducible refine Ext.drew ?_) | (with_reducible refine Ext.setRow ?_ (by first | exact LeS.le | exact LeS.add _ | (simp; done) | (simp; omega)) _) | (with_reducible refine Ext.setCell ?_ (by first | exact LeS.le | exact LeS.add _ | (simp; done) | (simp; omega)) _)))) n1).mono ?_; rintro e w' ⟨y1, rfl, ⟨z1, rfl⟩, o1⟩
  obtain ⟨q1, d1, rfl, _, _⟩ := (o1.sl Actn.enc_length).openc
  have O1 := Lib.hid (Own.lo o1 (show w.heap.size + 3 ≤ _ by first | (simp; omega) | (simp [setCell_size]; omega))); clear o1
  have hz1 := z1.ext.size
  simp [setCell_size] at hz1
  go_wp2_with fail
  refine (toVersionS_any g.vers _ _ (HG.out.vers.up (by repeat (first | (with_reducible exact Ext.refl _) | (with_reducible refine Ext.up ?_ _) | (with_reducible refine Ext.alloc ?_ _) | (with_reducible refine Ext.drew ?_) | (with_reducible refine Ext.setRow ?_ (by first | exact LeS.le | exact LeS.add _ | (simp; done) | (simp; omega)) _) | (with_reducible refine Ext.setCell ?_ (by first | exact LeS.le | exact LeS.add _ | (simp; done) | (simp; omega)) _)))) n2).mono ?_; rintro e w' ⟨y2, rfl, ⟨z2, rfl⟩, o2⟩
  obtain ⟨q2, d2, rfl, _, _⟩ := (o2.sl Ver.enc_length).openc
  have O2 := Lib.hid (Own.lo o2 (show w.heap.size + 3 ≤ _ by first | (simp; omega) | (simp [setCell_size]; omega))); clear o2
  have hz2 := z2.ext.size
  simp [setCell_size] at hz2
  go_wp2_with fail
  refine (toSlotS_own g.sl _ _ (HG.out.sl.up (by repeat (first | (with_reducible exact Ext.refl _) | (with_reducible refine Ext.up ?_ _) | (with_reducible refine Ext.alloc ?_ _) | (with_reducible refine Ext.drew ?_) | (with_reducible refine Ext.setRow ?_ (by first | exact LeS.le | exact LeS.add _ | (simp; done) | (simp; omega)) _) | (with_reducible refine Ext.setCell ?_ (by first | exact LeS.le | exact LeS.add _ | (simp; done) | (simp; omega)) _)))) n3 n4).mono ?_; rintro e w' ⟨y3, rfl, ⟨z3, rfl⟩, o3⟩
  obtain ⟨q3, d3, rfl, _, -⟩ := o3.ss.open
  have O3 := Lib.hid (OSl.lo o3 (show w.heap.size + 3 ≤ _ by first | (simp; omega) | (simp [setCell_size]; omega))); clear o3
  go_wp2_with fail
  refine bodyPost_ret (v := .agg #[.slice q0 g.base.length d0, .slice q1 g.acts.length d1, .slice q2 g.vers.length d2, .slice q3 g.sl.length d3]) (by simp [results, Try.results50, go_sem]) rfl ?_
  refine ⟨_, _, _, _, rfl, (.of (by repeat (first | (with_reducible exact Ext.refl _) | (with_reducible refine Ext.up ?_ _) | (with_reducible refine Ext.alloc ?_ _) | (with_reducible refine Ext.drew ?_) | (with_reducible refine Ext.setRow ?_ (by first | exact LeS.le | exact LeS.add _ | (simp; done) | (simp; omega)) _) | (with_reducible refine Ext.setCell ?_ (by first | exact LeS.le | exact LeS.add _ | (simp; done) | (simp; omega)) _)))), ⟨Own.sl Ent.enc_length (e := 31) (lo := w.heap.size + 3) ?_, Own.sl Actn.enc_length (e := 24) (lo := w.heap.size + 3) ?_, Own.sl Ver.enc_length (e := 88) (lo := w.heap.size + 3) ?_, OSl.ss (lo := w.heap.size + 3) ?_⟩⟩
  · repeat (first | (with_reducible exact O0.out) | (with_reducible refine Own.setOld ?_ _ _ (by first | (simp; done) | (simp; omega) | omega)) | (with_reducible refine Own.up ?_ (Extd.ext _)))
  · repeat (first | (with_reducible exact O1.out) | (with_reducible refine Own.setOld ?_ _ _ (by first | (simp; done) | (simp; omega) | omega)) | (with_reducible refine Own.up ?_ (Extd.ext _)))
  · repeat (first | (with_reducible exact O2.out) | (with_reducible refine Own.setOld ?_ _ _ (by first | (simp; done) | (simp; omega) | omega)) | (with_reducible refine Own.up ?_ (Extd.ext _)))
  · repeat (first | (with_reducible exact O3.out) | (with_reducible refine OSl.setOld ?_ _ _ (by first | (simp; done) | (simp; omega) | omega)) | (with_reducible refine OSl.up ?_ (Extd.ext _)))
end Go.Proofs.Ytkboefmkfpnpjaa
namespace Go.Proofs.Ytkboefmkfpnpjaa
open Go Go.RowKit Go.Proofs

set_option maxRecDepth 100000 in
set_option maxHeartbeats 2000000 in
theorem FnExactEngineValid_any (g : Eng) (v0 v1 v2 v3 : Value) (w : World) (h : SG w v0 v1 v2 v3 g) :
    Calls Try.prog 9 #[.agg #[v0, v1, v2, v3]] w fun e w' => e = .returned (.bool true) ∧ Up w w' := by
  have H := Lib.hid h
  obtain ⟨p0, c0, rfl, _, _⟩ := h.base.openc
  obtain ⟨p1, c1, rfl, _, _⟩ := h.acts.openc
  obtain ⟨p2, c2, rfl, _, _⟩ := h.vers.openc
  obtain ⟨p3, c3, rfl, _, -⟩ := h.sl.open
  clear h
  go_enter Try.func9, Try.ntmps9
  go_wp2_with fail
  refine (szEngine_any g _ _ _ _ _ _ (H.out.up (by repeat (first | (with_reducible exact Ext.refl _) | (with_reducible refine Ext.up ?_ _) | (with_reducible refine Ext.alloc ?_ _) | (with_reducible refine Ext.drew ?_) | (with_reducible refine Ext.setRow ?_ (by first | exact LeS.le | exact LeS.add _ | (simp; done) | (simp; omega)) _) | (with_reducible refine Ext.setCell ?_ (by first | exact LeS.le | exact LeS.add _ | (simp; done) | (simp; omega)) _)))) (by omega) (by omega)).mono ?_; rintro e w' ⟨m, rfl, hm, ⟨z0, rfl⟩⟩
  rcases hm with hm | ⟨hm0, hm⟩
  · go_wp2_with fail
    go_ret
    exact ⟨rfl, (.of (by repeat (first | (with_reducible exact Ext.refl _) | (with_reducible refine Ext.up ?_ _) | (with_reducible refine Ext.alloc ?_ _) | (with_reducible refine Ext.drew ?_) | (with_reducible refine Ext.setRow ?_ (by first | exact LeS.le | exact LeS.add _ | (simp; done) | (simp; omega)) _) | (with_reducible refine Ext.setCell ?_ (by first | exact LeS.le | exact LeS.add _ | (simp; done) | (simp; omega)) _))))⟩
  have n0 : g.base.length ≤ 1048576 := by omega
  have n1 : g.acts.length ≤ 1048576 := by omega
  have n2 : g.vers.length ≤ 1048576 := by omega
  have n3 : g.sl.length ≤ 1048576 := by omega
  have n4 : totS g.sl ≤ 1048576 := by omega
  have ks := fun v0 v1 v2 v3 w h => sEngineValid_any g v0 v1 v2 v3 w h n2
  have ki := fun v0 v1 v2 v3 w h => iEngineValid_any g v0 v1 v2 v3 w h n2
  generalize g.ok = V at ks ki
  clear hm
  go_wp2_with fail
  refine (toEngine_any g _ _ _ _ _ (H.out.up (by repeat (first | (with_reducible exact Ext.refl _) | (with_reducible refine Ext.up ?_ _) | (with_reducible refine Ext.alloc ?_ _) | (with_reducible refine Ext.drew ?_) | (with_reducible refine Ext.setRow ?_ (by first | exact LeS.le | exact LeS.add _ | (simp; done) | (simp; omega)) _) | (with_reducible refine Ext.setCell ?_ (by first | exact LeS.le | exact LeS.add _ | (simp; done) | (simp; omega)) _)))) n0 n1 n2 n3 n4).mono ?_; rintro e w' ⟨a0, a1, a2, a3, rfl, ⟨z1, rfl⟩, s1⟩
  have S1 := Lib.hid s1; clear s1
  go_wp2_with fail
  refine (ks _ _ _ _ _ (S1.out.up (by repeat (first | (with_reducible exact Ext.refl _) | (with_reducible refine Ext.up ?_ _) | (with_reducible refine Ext.alloc ?_ _) | (with_reducible refine Ext.drew ?_) | (with_reducible refine Ext.setRow ?_ (by first | exact LeS.le | exact LeS.add _ | (simp; done) | (simp; omega)) _) | (with_reducible refine Ext.setCell ?_ (by first | exact LeS.le | exact LeS.add _ | (simp; done) | (simp; omega)) _))))).mono ?_; rintro e w' ⟨rfl, ⟨z2, rfl⟩⟩
  go_wp2_with fail
  refine (toEngine_any g _ _ _ _ _ (H.out.up (by repeat (first | (with_reducible exact Ext.refl _) | (with_reducible refine Ext.up ?_ _) | (with_reducible refine Ext.alloc ?_ _) | (with_reducible refine Ext.drew ?_) | (with_reducible refine Ext.setRow ?_ (by first | exact LeS.le | exact LeS.add _ | (simp; done) | (simp; omega)) _) | (with_reducible refine Ext.setCell ?_ (by first | exact LeS.le | exact LeS.add _ | (simp; done) | (simp; omega)) _)))) n0 n1 n2 n3 n4).mono ?_; rintro e w' ⟨b0, b1, b2, b3, rfl, ⟨z3, rfl⟩, s2⟩
  obtain ⟨q0, d0, rfl, _, _⟩ := s2.base.openc
  obtain ⟨q1, d1, rfl, _, _⟩ := s2.acts.openc
  obtain ⟨q2, d2, rfl, _, _⟩ := s2.vers.openc
  obtain ⟨q3, d3, rfl, _, -⟩ := s2.sl.open
  have S2 := Lib.hid s2; clear s2
  go_wp2_with fail
  refine (ki _ _ _ _ _ (S2.out.up (by repeat (first | (with_reducible exact Ext.refl _) | (with_reducible refine Ext.up ?_ _) | (with_reducible refine Ext.alloc ?_ _) | (with_reducible refine Ext.drew ?_) | (with_reducible refine Ext.setRow ?_ (by first | exact LeS.le | exact LeS.add _ | (simp; done) | (simp; omega)) _) | (with_reducible refine Ext.setCell ?_ (by first | exact LeS.le | exact LeS.add _ | (simp; done) | (simp; omega)) _))))).mono ?_; rintro e w' ⟨rfl, ⟨z4, rfl⟩⟩
  clear ks ki
  go_wp2_with fail
  (refine wp_named ?_; intro W0 hW0; have hI := LtS.via hW0; go_region_held3 (fun w' => (∀ n i, ∀ [LtS n W0], w'.cell? ⟨n, i, none⟩ = W0.cell? ⟨n, i, none⟩) ∧ Ext W0 w') (((try subst hW0); refine S_of_ext ?_; (repeat (first | exact Ext.refl _ | refine Ext.up ?_ _ | refine Ext.alloc ?_ _ | refine Ext.drew ?_ | refine Ext.setRow ?_ (by first | (dsimp only; omega) | exact LeS.le | exact LeS.add _ | (simp; done) | (simp; omega)) _ | refine Ext.setCell ?_ (by first | (dsimp only; omega) | exact LeS.le | exact LeS.add _ | (simp; done) | (simp; omega)) _)); done)) (first | (go_at_call 50; refine (toEngine_any g _ _ _ _ _ (H.out.up (by (try subst hW0); repeat (first | exact Ext.refl _ | refine Ext.up ?_ _ | refine Ext.alloc ?_ _ | refine Ext.drew ?_ | refine Ext.setRow ?_ (by first | (dsimp only; omega) | exact LeS.le | exact LeS.add _ | (simp; done) | (simp; omega)) _ | refine Ext.setCell ?_ (by first | (dsimp only; omega) | exact LeS.le | exact LeS.add _ | (simp; done) | (simp; omega)) _))) n0 n1 n2 n3 n4).mono ?_; rintro e w' ⟨g0, g1, g2, g3, rfl, ⟨z5, rfl⟩, S3⟩) | (go_at_call 52; refine (eqEngine_same g _ _ _ _ _ _ _ _ _ (S2.out.up (by (try subst hW0); repeat (first | exact Ext.refl _ | refine Ext.up ?_ _ | refine Ext.alloc ?_ _ | refine Ext.drew ?_ | refine Ext.setRow ?_ (by first | (dsimp only; omega) | exact LeS.le | exact LeS.add _ | (simp; done) | (simp; omega)) _ | refine Ext.setCell ?_ (by first | (dsimp only; omega) | exact LeS.le | exact LeS.add _ | (simp; done) | (simp; omega)) _))) S3).mono ?_; rintro e w' ⟨rfl, ⟨z6, rfl⟩⟩)))
  go_wp2_with fail
  go_ret
  exact ⟨rfl, .of (by subst hW0; repeat (first | exact Ext.refl _ | refine Ext.up ?_ _ | refine Ext.alloc ?_ _ | refine Ext.drew ?_ | refine Ext.setRow ?_ (by first | (dsimp only; omega) | exact LeS.le | exact LeS.add _ | (simp; done) | (simp; omega)) _ | refine Ext.setCell ?_ (by first | (dsimp only; omega) | exact LeS.le | exact LeS.add _ | (simp; done) | (simp; omega)) _))⟩
set_option maxRecDepth 100000 in
set_option maxHeartbeats 2000000 in
theorem FnExactEngineDone_any (g : Eng) (v0 v1 v2 v3 : Value) (w : World) (h : SG w v0 v1 v2 v3 g) :
    Calls Try.prog 10 #[.agg #[v0, v1, v2, v3]] w fun e w' => e = .returned (.bool true) ∧ Up w w' := by
  have H := Lib.hid h
  obtain ⟨p0, c0, rfl, _, _⟩ := h.base.openc
  obtain ⟨p1, c1, rfl, _, _⟩ := h.acts.openc
  obtain ⟨p2, c2, rfl, _, _⟩ := h.vers.openc
  obtain ⟨p3, c3, rfl, _, -⟩ := h.sl.open
  clear h
  go_enter Try.func10, Try.ntmps10
  go_wp2_with fail
  refine (szEngine_any g _ _ _ _ _ _ (H.out.up (by repeat (first | (with_reducible exact Ext.refl _) | (with_reducible refine Ext.up ?_ _) | (with_reducible refine Ext.alloc ?_ _) | (with_reducible refine Ext.drew ?_) | (with_reducible refine Ext.setRow ?_ (by first | exact LeS.le | exact LeS.add _ | (simp; done) | (simp; omega)) _) | (with_reducible refine Ext.setCell ?_ (by first | exact LeS.le | exact LeS.add _ | (simp; done) | (simp; omega)) _)))) (by omega) (by omega)).mono ?_; rintro e w' ⟨m, rfl, hm, ⟨z0, rfl⟩⟩
  rcases hm with hm | ⟨hm0, hm⟩
  · go_wp2_with fail
    go_ret
    exact ⟨rfl, (.of (by repeat (first | (with_reducible exact Ext.refl _) | (with_reducible refine Ext.up ?_ _) | (with_reducible refine Ext.alloc ?_ _) | (with_reducible refine Ext.drew ?_) | (with_reducible refine Ext.setRow ?_ (by first | exact LeS.le | exact LeS.add _ | (simp; done) | (simp; omega)) _) | (with_reducible refine Ext.setCell ?_ (by first | exact LeS.le | exact LeS.add _ | (simp; done) | (simp; omega)) _))))⟩
  have n0 : g.base.length ≤ 1048576 := by omega
  have n1 : g.acts.length ≤ 1048576 := by omega
  have n2 : g.vers.length ≤ 1048576 := by omega
  have n3 : g.sl.length ≤ 1048576 := by omega
  have n4 : totS g.sl ≤ 1048576 := by omega
  have ks := fun v0 v1 v2 v3 w h => sEngineDone_any g v0 v1 v2 v3 w h n2
  have ki := fun v0 v1 v2 v3 w h => iEngineDone_any g v0 v1 v2 v3 w h n2
  generalize g.done = V at ks ki
  clear hm
  go_wp2_with fail
  refine (toEngine_any g _ _ _ _ _ (H.out.up (by repeat (first | (with_reducible exact Ext.refl _) | (with_reducible refine Ext.up ?_ _) | (with_reducible refine Ext.alloc ?_ _) | (with_reducible refine Ext.drew ?_) | (with_reducible refine Ext.setRow ?_ (by first | exact LeS.le | exact LeS.add _ | (simp; done) | (simp; omega)) _) | (with_reducible refine Ext.setCell ?_ (by first | exact LeS.le | exact LeS.add _ | (simp; done) | (simp; omega)) _)))) n0 n1 n2 n3 n4).mono ?_; rintro e w' ⟨a0, a1, a2, a3, rfl, ⟨z1, rfl⟩, s1⟩
  have S1 := Lib.hid s1; clear s1
  go_wp2_with fail
  refine (ks _ _ _ _ _ (S1.out.up (by repeat (first | (with_reducible exact Ext.refl _) | (with_reducible refine Ext.up ?_ _) | (with_reducible refine Ext.alloc ?_ _) | (with_reducible refine Ext.drew ?_) | (with_reducible refine Ext.setRow ?_ (by first | exact LeS.le | exact LeS.add _ | (simp; done) | (simp; omega)) _) | (with_reducible refine Ext.setCell ?_ (by first | exact LeS.le | exact LeS.add _ | (simp; done) | (simp; omega)) _))))).mono ?_; rintro e w' ⟨rfl, ⟨z2, rfl⟩⟩
  go_wp2_with fail
  refine (toEngine_any g _ _ _ _ _ (H.out.up (by repeat (first | (with_reducible exact Ext.refl _) | (with_reducible refine Ext.up ?_ _) | (with_reducible refine Ext.alloc ?_ _) | (with_reducible refine Ext.drew ?_) | (with_reducible refine Ext.setRow ?_ (by first | exact LeS.le | exact LeS.add _ | (simp; done) | (simp; omega)) _) | (with_reducible refine Ext.setCell ?_ (by first | exact LeS.le | exact LeS.add _ | (simp; done) | (simp; omega)) _)))) n0 n1 n2 n3 n4).mono ?_; rintro e w' ⟨b0, b1, b2, b3, rfl, ⟨z3, rfl⟩, s2⟩
  obtain ⟨q0, d0, rfl, _, _⟩ := s2.base.openc
  obtain ⟨q1, d1, rfl, _, _⟩ := s2.acts.openc
  obtain ⟨q2, d2, rfl, _, _⟩ := s2.vers.openc
  obtain ⟨q3, d3, rfl, _, -⟩ := s2.sl.open
  have S2 := Lib.hid s2; clear s2
  go_wp2_with fail
  refine (ki _ _ _ _ _ (S2.out.up (by repeat (first | (with_reducible exact Ext.refl _) | (with_reducible refine Ext.up ?_ _) | (with_reducible refine Ext.alloc ?_ _) | (with_reducible refine Ext.drew ?_) | (with_reducible refine Ext.setRow ?_ (by first | exact LeS.le | exact LeS.add _ | (simp; done) | (simp; omega)) _) | (with_reducible refine Ext.setCell ?_ (by first | exact LeS.le | exact LeS.add _ | (simp; done) | (simp; omega)) _))))).mono ?_; rintro e w' ⟨rfl, ⟨z4, rfl⟩⟩
  clear ks ki
  go_wp2_with fail
  (refine wp_named ?_; intro W0 hW0; have hI := LtS.via hW0; go_region_held3 (fun w' => (∀ n i, ∀ [LtS n W0], w'.cell? ⟨n, i, none⟩ = W0.cell? ⟨n, i, none⟩) ∧ Ext W0 w') (((try subst hW0); refine S_of_ext ?_; (repeat (first | exact Ext.refl _ | refine Ext.up ?_ _ | refine Ext.alloc ?_ _ | refine Ext.drew ?_ | refine Ext.setRow ?_ (by first | (dsimp only; omega) | exact LeS.le | exact LeS.add _ | (simp; done) | (simp; omega)) _ | refine Ext.setCell ?_ (by first | (dsimp only; omega) | exact LeS.le | exact LeS.add _ | (simp; done) | (simp; omega)) _)); done)) (first | (go_at_call 50; refine (toEngine_any g _ _ _ _ _ (H.out.up (by (try subst hW0); repeat (first | exact Ext.refl _ | refine Ext.up ?_ _ | refine Ext.alloc ?_ _ | refine Ext.drew ?_ | refine Ext.setRow ?_ (by first | (dsimp only; omega) | exact LeS.le | exact LeS.add _ | (simp; done) | (simp; omega)) _ | refine Ext.setCell ?_ (by first | (dsimp only; omega) | exact LeS.le | exact LeS.add _ | (simp; done) | (simp; omega)) _))) n0 n1 n2 n3 n4).mono ?_; rintro e w' ⟨g0, g1, g2, g3, rfl, ⟨z5, rfl⟩, S3⟩) | (go_at_call 52; refine (eqEngine_same g _ _ _ _ _ _ _ _ _ (S2.out.up (by (try subst hW0); repeat (first | exact Ext.refl _ | refine Ext.up ?_ _ | refine Ext.alloc ?_ _ | refine Ext.drew ?_ | refine Ext.setRow ?_ (by first | (dsimp only; omega) | exact LeS.le | exact LeS.add _ | (simp; done) | (simp; omega)) _ | refine Ext.setCell ?_ (by first | (dsimp only; omega) | exact LeS.le | exact LeS.add _ | (simp; done) | (simp; omega)) _))) S3).mono ?_; rintro e w' ⟨rfl, ⟨z6, rfl⟩⟩)))
  go_wp2_with fail
  go_ret
  exact ⟨rfl, .of (by subst hW0; repeat (first | exact Ext.refl _ | refine Ext.up ?_ _ | refine Ext.alloc ?_ _ | refine Ext.drew ?_ | refine Ext.setRow ?_ (by first | (dsimp only; omega) | exact LeS.le | exact LeS.add _ | (simp; done) | (simp; omega)) _ | refine Ext.setCell ?_ (by first | (dsimp only; omega) | exact LeS.le | exact LeS.add _ | (simp; done) | (simp; omega)) _))⟩
set_option maxRecDepth 100000 in
set_option maxHeartbeats 2000000 in
theorem FnExactTriesOf_any (g : Eng) (v0 v1 v2 v3 : Value) (w : World) (h : SG w v0 v1 v2 v3 g) :
    Calls Try.prog 11 #[.agg #[v0, v1, v2, v3]] w fun e w' => e = .returned (.bool true) ∧ Up w w' := by
  have H := Lib.hid h
  obtain ⟨p0, c0, rfl, _, _⟩ := h.base.openc
  obtain ⟨p1, c1, rfl, _, _⟩ := h.acts.openc
  obtain ⟨p2, c2, rfl, _, _⟩ := h.vers.openc
  obtain ⟨p3, c3, rfl, _, -⟩ := h.sl.open
  clear h
  go_enter Try.func11, Try.ntmps11
  go_wp2_with fail
  refine (szEngine_any g _ _ _ _ _ _ (H.out.up (by repeat (first | (with_reducible exact Ext.refl _) | (with_reducible refine Ext.up ?_ _) | (with_reducible refine Ext.alloc ?_ _) | (with_reducible refine Ext.drew ?_) | (with_reducible refine Ext.setRow ?_ (by first | exact LeS.le | exact LeS.add _ | (simp; done) | (simp; omega)) _) | (with_reducible refine Ext.setCell ?_ (by first | exact LeS.le | exact LeS.add _ | (simp; done) | (simp; omega)) _)))) (by omega) (by omega)).mono ?_; rintro e w' ⟨m, rfl, hm, ⟨z0, rfl⟩⟩
  rcases hm with hm | ⟨hm0, hm⟩
  · go_wp2_with fail
    go_ret
    exact ⟨rfl, (.of (by repeat (first | (with_reducible exact Ext.refl _) | (with_reducible refine Ext.up ?_ _) | (with_reducible refine Ext.alloc ?_ _) | (with_reducible refine Ext.drew ?_) | (with_reducible refine Ext.setRow ?_ (by first | exact LeS.le | exact LeS.add _ | (simp; done) | (simp; omega)) _) | (with_reducible refine Ext.setCell ?_ (by first | exact LeS.le | exact LeS.add _ | (simp; done) | (simp; omega)) _))))⟩
  have n0 : g.base.length ≤ 1048576 := by omega
  have n1 : g.acts.length ≤ 1048576 := by omega
  have n2 : g.vers.length ≤ 1048576 := by omega
  have n3 : g.sl.length ≤ 1048576 := by omega
  have n4 : totS g.sl ≤ 1048576 := by omega
  have ks := fun v0 v1 v2 v3 w h => sTriesOf_any g v0 v1 v2 v3 w h n2
  have ki := fun v0 v1 v2 v3 w h => iTriesOf_any g v0 v1 v2 v3 w h n2
  generalize g.tries = V at ks ki
  clear hm
  go_wp2_with fail
  refine (toEngine_any g _ _ _ _ _ (H.out.up (by repeat (first | (with_reducible exact Ext.refl _) | (with_reducible refine Ext.up ?_ _) | (with_reducible refine Ext.alloc ?_ _) | (with_reducible refine Ext.drew ?_) | (with_reducible refine Ext.setRow ?_ (by first | exact LeS.le | exact LeS.add _ | (simp; done) | (simp; omega)) _) | (with_reducible refine Ext.setCell ?_ (by first | exact LeS.le | exact LeS.add _ | (simp; done) | (simp; omega)) _)))) n0 n1 n2 n3 n4).mono ?_; rintro e w' ⟨a0, a1, a2, a3, rfl, ⟨z1, rfl⟩, s1⟩
  have S1 := Lib.hid s1; clear s1
  go_wp2_with fail
  refine (ks _ _ _ _ _ (S1.out.up (by repeat (first | (with_reducible exact Ext.refl _) | (with_reducible refine Ext.up ?_ _) | (with_reducible refine Ext.alloc ?_ _) | (with_reducible refine Ext.drew ?_) | (with_reducible refine Ext.setRow ?_ (by first | exact LeS.le | exact LeS.add _ | (simp; done) | (simp; omega)) _) | (with_reducible refine Ext.setCell ?_ (by first | exact LeS.le | exact LeS.add _ | (simp; done) | (simp; omega)) _))))).mono ?_; rintro e w' ⟨rfl, ⟨z2, rfl⟩⟩
  go_wp2_with fail
  refine (toEngine_any g _ _ _ _ _ (H.out.up (by repeat (first | (with_reducible exact Ext.refl _) | (with_reducible refine Ext.up ?_ _) | (with_reducible refine Ext.alloc ?_ _) | (with_reducible refine Ext.drew ?_) | (with_reducible refine Ext.setRow ?_ (by first | exact LeS.le | exact LeS.add _ | (simp; done) | (simp; omega)) _) | (with_reducible refine Ext.setCell ?_ (by first | exact LeS.le | exact LeS.add _ | (simp; done) | (simp; omega)) _)))) n0 n1 n2 n3 n4).mono ?_; rintro e w' ⟨b0, b1, b2, b3, rfl, ⟨z3, rfl⟩, s2⟩
  obtain ⟨q0, d0, rfl, _, _⟩ := s2.base.openc
  obtain ⟨q1, d1, rfl, _, _⟩ := s2.acts.openc
  obtain ⟨q2, d2, rfl, _, _⟩ := s2.vers.openc
  obtain ⟨q3, d3, rfl, _, -⟩ := s2.sl.open
  have S2 := Lib.hid s2; clear s2
  go_wp2_with fail
  refine (ki _ _ _ _ _ (S2.out.up (by repeat (first | (with_reducible exact Ext.refl _) | (with_reducible refine Ext.up ?_ _) | (with_reducible refine Ext.alloc ?_ _) | (with_reducible refine Ext.drew ?_) | (with_reducible refine Ext.setRow ?_ (by first | exact LeS.le | exact LeS.add _ | (simp; done) | (simp; omega)) _) | (with_reducible refine Ext.setCell ?_ (by first | exact LeS.le | exact LeS.add _ | (simp; done) | (simp; omega)) _))))).mono ?_; rintro e w' ⟨rfl, ⟨z4, rfl⟩⟩
  clear ks ki
  go_wp2_with fail
  (refine wp_named ?_; intro W0 hW0; have hI := LtS.via hW0; go_region_held3 (fun w' => (∀ n i, ∀ [LtS n W0], w'.cell? ⟨n, i, none⟩ = W0.cell? ⟨n, i, none⟩) ∧ Ext W0 w') (((try subst hW0); refine S_of_ext ?_; (repeat (first | exact Ext.refl _ | refine Ext.up ?_ _ | refine Ext.alloc ?_ _ | refine Ext.drew ?_ | refine Ext.setRow ?_ (by first | (dsimp only; omega) | exact LeS.le | exact LeS.add _ | (simp; done) | (simp; omega)) _ | refine Ext.setCell ?_ (by first | (dsimp only; omega) | exact LeS.le | exact LeS.add _ | (simp; done) | (simp; omega)) _)); done)) (first | (go_at_call 50; refine (toEngine_any g _ _ _ _ _ (H.out.up (by (try subst hW0); repeat (first | exact Ext.refl _ | refine Ext.up ?_ _ | refine Ext.alloc ?_ _ | refine Ext.drew ?_ | refine Ext.setRow ?_ (by first | (dsimp only; omega) | exact LeS.le | exact LeS.add _ | (simp; done) | (simp; omega)) _ | refine Ext.setCell ?_ (by first | (dsimp only; omega) | exact LeS.le | exact LeS.add _ | (simp; done) | (simp; omega)) _))) n0 n1 n2 n3 n4).mono ?_; rintro e w' ⟨g0, g1, g2, g3, rfl, ⟨z5, rfl⟩, S3⟩) | (go_at_call 52; refine (eqEngine_same g _ _ _ _ _ _ _ _ _ (S2.out.up (by (try subst hW0); repeat (first | exact Ext.refl _ | refine Ext.up ?_ _ | refine Ext.alloc ?_ _ | refine Ext.drew ?_ | refine Ext.setRow ?_ (by first | (dsimp only; omega) | exact LeS.le | exact LeS.add _ | (simp; done) | (simp; omega)) _ | refine Ext.setCell ?_ (by first | (dsimp only; omega) | exact LeS.le | exact LeS.add _ | (simp; done) | (simp; omega)) _))) S3).mono ?_; rintro e w' ⟨rfl, ⟨z6, rfl⟩⟩)))
  go_wp2_with fail
  go_ret
  exact ⟨rfl, .of (by subst hW0; repeat (first | exact Ext.refl _ | refine Ext.up ?_ _ | refine Ext.alloc ?_ _ | refine Ext.drew ?_ | refine Ext.setRow ?_ (by first | (dsimp only; omega) | exact LeS.le | exact LeS.add _ | (simp; done) | (simp; omega)) _ | refine Ext.setCell ?_ (by first | (dsimp only; omega) | exact LeS.le | exact LeS.add _ | (simp; done) | (simp; omega)) _))⟩
end Go.Proofs.Ytkboefmkfpnpjaa
