/- Walks: blocks that are put into trees, trees that grow: the reference's side (weak contracts: the tree stays valid). -/
import Derived.Test.YteiemjebdhmnaaaGSoTop26
import Derived.Test.YteiemjebdhmnaaaGSoTop20
import Derived.Test.YteiemjebdhmnaaaGSoTop17
import Derived.Test.YteiemjebdhmnaaaGSoTop15
import Derived.Test.YteiemjebdhmnaaaGSoTop08
set_option linter.unusedSimpArgs false
set_option linter.unusedVariables false
namespace Go.Proofs.Yteiemjebdhmnaaa
open Go Go.RowKit Go.Proofs

theorem cell_grown {W W' : World} {r : Option Nat} (g : W.grownBy W' r) {n i : Nat} (hl : n < W.heap.size) (hn : r ≠ some n) : W'.cell? ⟨n, i, none⟩ = W.cell? ⟨n, i, none⟩ := by
  simp only [World.cell?, g.block n hl (fun e => hn (by first | exact e | exact e.symm))]
theorem frozen_grown {W W' : World} {r : Option Nat} (g : W.grownBy W' r) {n i : Nat} (hl : n < W.heap.size) (hn : r ≠ some n) : W'.frozen? ⟨n, i, none⟩ = W.frozen? ⟨n, i, none⟩ := by
  simp only [World.frozen?, g.block n hl (fun e => hn (by first | exact e | exact e.symm))]
theorem Own.ne_out {α : Type} {enc : α → List Value} {e sz lo : Nat} {w : World} {v : Value} {l : List α} (h : Own enc e sz lo w v l) : ∀ n, (n < lo ∨ w.heap.size ≤ n) → v.ownBlock ≠ some n := by
  intro n hn e
  have := World.ownsRow.lt h n e
  omega
theorem Tree.bounds {t : Tree} (h : t.ok = true) : t.base.length ≤ 32 ∧ t.bs.length ≤ 14 ∧ t.pr.length ≤ 14 ∧ ∀ x ∈ t.bs, x.2.length ≤ 10 := by
  obtain ⟨h1, h2, h3⟩ := Tree.lens h
  refine ⟨entsOk_len (Tree.head_parts (Tree.ok_parts h).1).1, h3, by omega, fun x hx => ?_⟩
  obtain ⟨i, hi⟩ := List.getElem?_of_mem hx
  exact actsOk_len (Blk.okL_acts (newAt_ok hi (upTo_iff.1 (Tree.ok_parts h).2.2.1 i (List.getElem?_eq_some_iff.1 hi).1)))
set_option maxRecDepth 100000 in
set_option maxHeartbeats 8000000 in
theorem sPutBlock_weak (t : Tree) (v0 v1 v2 : Value) (b : Blk) (bl : List Actn) (vb : Value) (w : World) (h : ST w v0 v1 v2 t) (hok : t.ok = true) (hb : SL (RF Actn.enc) 4 w vb bl) (hbl : bl.length ≤ 1000) :
    Calls Try.prog 79 #[.agg #[v0, v1, v2], .agg #[.int .i64 b.bf, .int .i64 b.ht, .int .i64 b.vw, vb, .int .i64 b.rt, .int .i64 b.ef]] w fun e w' => ∃ (u0 u1 u2 : Value) (t' : Tree) (bs : List TB) (ok : Bool), e = .returned (.tuple #[.agg #[u0, u1, u2], .bool ok]) ∧ Up w w' ∧ t'.ok = true ∧ t.bs.length ≤ t'.bs.length ∧ bs.map TB.core = t'.bs ∧ OTA 61 39 85 3 w.heap.size w' u0 u1 u2 t'.base bs t'.pr := by
  have H := Lib.hid h; have HB := Lib.hid hb
  obtain ⟨p0, c0, rfl, _, _⟩ := h.base.openc
  obtain ⟨p1, c1, rfl, _, _⟩ := h.bs.openc
  obtain ⟨p2, c2, rfl, _, _⟩ := h.pr.openc
  obtain ⟨pb, cb, rfl, _, _⟩ := hb.openc
  obtain ⟨k1, k2, k3, k4⟩ := Tree.bounds hok
  have kv := fun w h => sTreeValid_any t (.slice p0 t.base.length c0) (.slice p1 t.bs.length c1) (.slice p2 t.pr.length c2) w h
  simp only [hok] at kv
  have K4 := Lib.hid k4; have Hok := Lib.hid hok
  clear h hb k4 hok
  go_enter Try.func79, Try.ntmps79
  go_wp2_with (go_at_call 11; refine (kv _ (H.out.up (by repeat (first | (with_reducible exact Ext.refl _) | (with_reducible refine Ext.up ?_ _) | (with_reducible refine Ext.alloc ?_ _) | (with_reducible refine Ext.drew ?_) | (with_reducible refine Ext.setRow ?_ (by first | exact LeS.le | exact LeS.add _ | (simp; done) | (simp; omega)) _) | (with_reducible refine Ext.setCell ?_ (by first | exact LeS.le | exact LeS.add _ | (simp; done) | (simp; omega)) _))))).mono ?_; rintro e w' ⟨rfl, z1, rfl⟩)
  refine (sCopy_any t _ _ _ _ (H.out.up (by repeat (first | (with_reducible exact Ext.refl _) | (with_reducible refine Ext.up ?_ _) | (with_reducible refine Ext.alloc ?_ _) | (with_reducible refine Ext.drew ?_) | (with_reducible refine Ext.setRow ?_ (by first | exact LeS.le | exact LeS.add _ | (simp; done) | (simp; omega)) _) | (with_reducible refine Ext.setCell ?_ (by first | exact LeS.le | exact LeS.add _ | (simp; done) | (simp; omega)) _)))) (by omega) (by omega) (fun x hx => by have := K4.out x hx; omega) (by omega)).mono ?_; rintro e w' ⟨x0, x1, x2, bs, rfl, ⟨z2, rfl⟩, hm, ot⟩
  have hz1 : w.heap.size + 1 + 1 + 1 ≤ z1.val.heap.size := by have := z1.ext.size; simp at this; omega
  have hz2 := z2.ext.size
  have hbs : bs.length = t.bs.length := by rw [← hm, List.length_map]
  have hbs2 : bs.length ≤ 14 := by omega
  obtain ⟨q0, d0, rfl, _, _⟩ := (ot.obase.sl Ent.enc_length).openc
  obtain ⟨q1, d1, rfl, _, _⟩ := (ot.obs.1.sl TB.enc_length).openc
  obtain ⟨q2, d2, rfl, _, _⟩ := (ot.opr.sl encI_length).openc
  have hN1 := Own.ne_out ot.obs.1
  have hN2 := Own.ne_out ot.opr
  have OT := Lib.hid ot; have Hm := Lib.hid hm; have Hbs := Lib.hid hbs
  clear ot hm hbs kv
  go_wp2_with (first | (at_builtin; refine wpList_clone fActn Actn.enc Actn.enc_length (lo := z2.val.heap.size) bl rfl (.tmp 13) (.tmp 15) rfl rfl rfl (heap_alloc_at (by simp)) (by first | exact LeS.le | omega | (simp; omega)) (HB.out.up (by repeat (first | (with_reducible exact Ext.refl _) | (with_reducible refine Ext.up ?_ _) | (with_reducible refine Ext.alloc ?_ _) | (with_reducible refine Ext.drew ?_) | (with_reducible refine Ext.setRow ?_ (by first | exact LeS.le | exact LeS.add _ | (simp; done) | (simp; omega)) _) | (with_reducible refine Ext.setCell ?_ (by first | exact LeS.le | exact LeS.add _ | (simp; done) | (simp; omega)) _)))) (oneAs _) (by omega) (by omega) ?_; intro v8 z8 o8 b8; obtain ⟨p8, c8, hv8, _, _⟩ := (o8.sl Actn.enc_length).openc; subst hv8; have O8 := Lib.hid o8; have hz8 := z8.ext.size; simp at hz8; have hN8 : (Value.slice p8 bl.length c8).ownBlock ≠ some z2.val.heap.size := (by rcases b8 with e8 | e8 <;> rw [e8] <;> simp <;> omega); clear o8 b8) | (at_builtin; refine wpList_pushG fBlk rfl (.tmp 19) (.tmp 21) rfl TB.enc TB.enc_length w (lo := z1.val.heap.size) [⟨b, .slice p8 bl.length c8, bl⟩] bs rfl ((OT.out.obs.1.up (show Ext z2.val z8.val from (by repeat (first | (with_reducible exact Ext.refl _) | (with_reducible refine Ext.up ?_ _) | (with_reducible refine Ext.alloc ?_ _) | (with_reducible refine Ext.drew ?_) | (with_reducible refine Ext.setRow ?_ (by first | exact LeS.le | exact LeS.add _ | (simp; done) | (simp; omega)) _) | (with_reducible refine Ext.setCell ?_ (by first | exact LeS.le | exact LeS.add _ | (simp; done) | (simp; omega)) _))))).setOld _ _ (by show w.heap.size + 1 < _; omega)) (by repeat (first | (with_reducible exact Ext.refl _) | (with_reducible refine Ext.up ?_ _) | (with_reducible refine Ext.alloc ?_ _) | (with_reducible refine Ext.drew ?_) | (with_reducible refine Ext.setRow ?_ (by first | exact LeS.le | exact LeS.add _ | (simp; done) | (simp; omega)) _) | (with_reducible refine Ext.setCell ?_ (by first | exact LeS.le | exact LeS.add _ | (simp; done) | (simp; omega)) _))) (by omega) (by simp [setCell_sz]; omega) rfl rfl (by go_simp) rfl (by simp [TB.enc, Value.oneCell']) (by simp; omega) (by simp; omega) ?_; intro v7 z7 o7 g7 b7; obtain ⟨p7, c7, hv7, _, _⟩ := (o7.sl TB.enc_length).openc; rw [List.length_append] at hv7; rw [show ([(⟨b, .slice p8 bl.length c8, bl⟩ : TB)]).length = 1 from rfl] at hv7; subst hv7; have cT0 : z7.val.cell? ⟨w.heap.size, 0, none⟩ = some (.slice p0 t.base.length c0) := ((cell_grown g7 (by simp [setCell_sz]; omega) (hN1 _ (.inl (by omega)))).trans (by go_simp)); have cT1 : z7.val.cell? ⟨w.heap.size, 1, none⟩ = some (.slice p1 t.bs.length c1) := ((cell_grown g7 (by simp [setCell_sz]; omega) (hN1 _ (.inl (by omega)))).trans (by go_simp)); have cT2 : z7.val.cell? ⟨w.heap.size, 2, none⟩ = some (.slice p2 t.pr.length c2) := ((cell_grown g7 (by simp [setCell_sz]; omega) (hN1 _ (.inl (by omega)))).trans (by go_simp)); have cB0 : z7.val.cell? ⟨w.heap.size + 1, 0, none⟩ = some (.int .i64 b.bf) := ((cell_grown g7 (by simp [setCell_sz]; omega) (hN1 _ (.inl (by omega)))).trans (by go_simp)); have cB1 : z7.val.cell? ⟨w.heap.size + 1, 1, none⟩ = some (.int .i64 b.ht) := ((cell_grown g7 (by simp [setCell_sz]; omega) (hN1 _ (.inl (by omega)))).trans (by go_simp)); have cB2 : z7.val.cell? ⟨w.heap.size + 1, 2, none⟩ = some (.int .i64 b.vw) := ((cell_grown g7 (by simp [setCell_sz]; omega) (hN1 _ (.inl (by omega)))).trans (by go_simp)); have cB3 : z7.val.cell? ⟨w.heap.size + 1, 3, none⟩ = some (.slice p8 bl.length c8) := ((cell_grown g7 (by simp [setCell_sz]; omega) (hN1 _ (.inl (by omega)))).trans (by go_simp)); have cB4 : z7.val.cell? ⟨w.heap.size + 1, 4, none⟩ = some (.int .i64 b.rt) := ((cell_grown g7 (by simp [setCell_sz]; omega) (hN1 _ (.inl (by omega)))).trans (by go_simp)); have cB5 : z7.val.cell? ⟨w.heap.size + 1, 5, none⟩ = some (.int .i64 b.ef) := ((cell_grown g7 (by simp [setCell_sz]; omega) (hN1 _ (.inl (by omega)))).trans (by go_simp)); have cR0 : z7.val.cell? ⟨w.heap.size + 1 + 1, 0, none⟩ = some (.slice none 0 0) := ((cell_grown g7 (by simp [setCell_sz]; omega) (hN1 _ (.inl (by omega)))).trans (by go_simp)); have fR0 : z7.val.frozen? ⟨w.heap.size + 1 + 1, 0, none⟩ = false := ((frozen_grown g7 (by simp [setCell_sz]; omega) (hN1 _ (.inl (by omega)))).trans (by go_simp)); have cR1 : z7.val.cell? ⟨w.heap.size + 1 + 1, 1, none⟩ = some (.slice none 0 0) := ((cell_grown g7 (by simp [setCell_sz]; omega) (hN1 _ (.inl (by omega)))).trans (by go_simp)); have fR1 : z7.val.frozen? ⟨w.heap.size + 1 + 1, 1, none⟩ = false := ((frozen_grown g7 (by simp [setCell_sz]; omega) (hN1 _ (.inl (by omega)))).trans (by go_simp)); have cR2 : z7.val.cell? ⟨w.heap.size + 1 + 1, 2, none⟩ = some (.slice none 0 0) := ((cell_grown g7 (by simp [setCell_sz]; omega) (hN1 _ (.inl (by omega)))).trans (by go_simp)); have fR2 : z7.val.frozen? ⟨w.heap.size + 1 + 1, 2, none⟩ = false := ((frozen_grown g7 (by simp [setCell_sz]; omega) (hN1 _ (.inl (by omega)))).trans (by go_simp)); have cX0 : z7.val.cell? ⟨z2.val.heap.size, 0, none⟩ = some (.slice q0 t.base.length d0) := ((cell_grown g7 (by simp [setCell_sz]; omega) (hN1 _ (.inr (Nat.le_refl _)))).trans (by go_simp)); have fX0 : z7.val.frozen? ⟨z2.val.heap.size, 0, none⟩ = false := ((frozen_grown g7 (by simp [setCell_sz]; omega) (hN1 _ (.inr (Nat.le_refl _)))).trans (by go_simp)); have cX1 : z7.val.cell? ⟨z2.val.heap.size, 1, none⟩ = some (.slice q1 bs.length d1) := ((cell_grown g7 (by simp [setCell_sz]; omega) (hN1 _ (.inr (Nat.le_refl _)))).trans (by go_simp)); have fX1 : z7.val.frozen? ⟨z2.val.heap.size, 1, none⟩ = false := ((frozen_grown g7 (by simp [setCell_sz]; omega) (hN1 _ (.inr (Nat.le_refl _)))).trans (by go_simp)); have cX2 : z7.val.cell? ⟨z2.val.heap.size, 2, none⟩ = some (.slice q2 t.pr.length d2) := ((cell_grown g7 (by simp [setCell_sz]; omega) (hN1 _ (.inr (Nat.le_refl _)))).trans (by go_simp)); have fX2 : z7.val.frozen? ⟨z2.val.heap.size, 2, none⟩ = false := ((frozen_grown g7 (by simp [setCell_sz]; omega) (hN1 _ (.inr (Nat.le_refl _)))).trans (by go_simp)); have OA7 := Lib.hid (OTA.snocB (((OT.out.up (show Ext z2.val z8.val from (by repeat (first | (with_reducible exact Ext.refl _) | (with_reducible refine Ext.up ?_ _) | (with_reducible refine Ext.alloc ?_ _) | (with_reducible refine Ext.drew ?_) | (with_reducible refine Ext.setRow ?_ (by first | exact LeS.le | exact LeS.add _ | (simp; done) | (simp; omega)) _) | (with_reducible refine Ext.setCell ?_ (by first | exact LeS.le | exact LeS.add _ | (simp; done) | (simp; omega)) _))))).setOld _ _ (by show w.heap.size + 1 < _; omega)).up ((Ext.refl _).alloc _)) g7 b7 o7 (((O8.out.setOld _ _ (by show w.heap.size + 1 < _; omega)).alloc).lo (by omega)) (OT.out.new O8.out (Nat.le_refl _)).1 (OT.out.new O8.out (Nat.le_refl _)).2.1 (OT.out.new O8.out (Nat.le_refl _)).2.2.1 (OT.out.new O8.out (Nat.le_refl _)).2.2.2); have hN7 : (Value.slice p7 (bs.length + 1) c7).ownBlock ≠ some z2.val.heap.size := (by rcases b7 with e7 | e7 <;> rw [e7]; (exact hN1 _ (.inr (Nat.le_refl _))); (simp [setCell_sz]; omega)); have hs7 := g7.size; simp [setCell_sz] at hs7; clear o7 g7 b7))
  have hN0 := Own.ne_out OT.out.obase
  have hX := OT.out.off (X := z2.val.heap.size) (.inr (Nat.le_refl _))
  have hXb : ∀ x ∈ bs ++ [⟨b, .slice p8 bl.length c8, bl⟩], (TB.v x).ownBlock ≠ some z2.val.heap.size := by
    intro x hx
    rcases List.mem_append.1 hx with hx | hx
    · exact hX.2.2.2 x hx
    · rw [List.mem_singleton] at hx; subst hx; exact hN8
  refine wp_named ?_; intro W1 hW1
  have E1 : Ext w W1 := by rw [hW1]; exact (by repeat (first | (with_reducible exact Ext.refl _) | (with_reducible refine Ext.up ?_ _) | (with_reducible refine Ext.alloc ?_ _) | (with_reducible refine Ext.drew ?_) | (with_reducible refine Ext.setRow ?_ (by first | exact LeS.le | exact LeS.add _ | (simp; done) | (simp; omega)) _) | (with_reducible refine Ext.setCell ?_ (by first | exact LeS.le | exact LeS.add _ | (simp; done) | (simp; omega)) _)))
  have hs1 : W1.heap.size = z7.val.heap.size := by rw [hW1]; simp [setCell_sz]
  have OA1 := Lib.hid (show OTA 61 39 85 3 z1.val.heap.size W1 (.slice q0 t.base.length d0) (.slice p7 (bs.length + 1) c7) (.slice q2 t.pr.length d2) t.base (bs ++ [⟨b, .slice p8 bl.length c8, bl⟩]) t.pr from by rw [hW1]; exact OA7.out.set _ _ hX.1 hN7 hX.2.2.1 hXb)
  have hNX0 : NeS w.heap.size z2.val.heap.size := ⟨by omega⟩
  have hNX1 : NeS (w.heap.size + 1) z2.val.heap.size := ⟨by omega⟩
  have hNX2 : NeS (w.heap.size + 1 + 1) z2.val.heap.size := ⟨by omega⟩
  have e0 : W1.cell? ⟨w.heap.size, 0, none⟩ = some (.slice p0 t.base.length c0) := by rw [hW1]; go_simp
  have e1 : W1.cell? ⟨w.heap.size, 1, none⟩ = some (.slice p1 t.bs.length c1) := by rw [hW1]; go_simp
  have e2 : W1.cell? ⟨w.heap.size, 2, none⟩ = some (.slice p2 t.pr.length c2) := by rw [hW1]; go_simp
  have e3 : W1.cell? ⟨w.heap.size + 1, 0, none⟩ = some (.int .i64 b.bf) := by rw [hW1]; go_simp
  have e4 : W1.cell? ⟨z2.val.heap.size, 0, none⟩ = some (.slice q0 t.base.length d0) := by rw [hW1]; go_simp
  have e5 : W1.cell? ⟨z2.val.heap.size, 1, none⟩ = some (.slice p7 (bs.length + 1) c7) := by rw [hW1]; go_simp
  have e6 : W1.cell? ⟨z2.val.heap.size, 2, none⟩ = some (.slice q2 t.pr.length d2) := by rw [hW1]; go_simp
  have eR0 : W1.cell? ⟨w.heap.size + 1 + 1, 0, none⟩ = some (.slice none 0 0) := by rw [hW1]; go_simp
  have eR1 : W1.cell? ⟨w.heap.size + 1 + 1, 1, none⟩ = some (.slice none 0 0) := by rw [hW1]; go_simp
  have eR2 : W1.cell? ⟨w.heap.size + 1 + 1, 2, none⟩ = some (.slice none 0 0) := by rw [hW1]; go_simp
  have f4 : W1.frozen? ⟨z2.val.heap.size, 2, none⟩ = false := by rw [hW1]; go_simp
  have fR0' : W1.frozen? ⟨w.heap.size + 1 + 1, 0, none⟩ = false := by rw [hW1]; go_simp
  have fR1' : W1.frozen? ⟨w.heap.size + 1 + 1, 1, none⟩ = false := by rw [hW1]; go_simp
  have fR2' : W1.frozen? ⟨w.heap.size + 1 + 1, 2, none⟩ = false := by rw [hW1]; go_simp
  have hLt0 : LtS w.heap.size W1 := ⟨by omega⟩
  have hLt1 : LtS (w.heap.size + 1) W1 := ⟨by omega⟩
  have hLt2 : LtS (w.heap.size + 1 + 1) W1 := ⟨by omega⟩
  have hLtX : LtS z2.val.heap.size W1 := ⟨by omega⟩
  clear hW1 OA7 O8 hN8 cT0 cT1 cT2 cB0 cB1 cB2 cB3 cB4 cB5 cR0 cR1 cR2 fR0 fR1 fR2 cX0 cX1 cX2 fX0 fX1 fX2
  refine wp_region_held_drew (S := (fun w' => w'.cell? ⟨w.heap.size, 0, none⟩ = some (.slice p0 t.base.length c0) ∧ w'.cell? ⟨w.heap.size, 1, none⟩ = some (.slice p1 t.bs.length c1) ∧ w'.cell? ⟨w.heap.size, 2, none⟩ = some (.slice p2 t.pr.length c2) ∧ w'.cell? ⟨w.heap.size + 1, 0, none⟩ = some (.int .i64 b.bf) ∧ Ext w w')) (by kernel_rfl) ?_ (fun hHeld => ?_)
  · (try dsimp only)
    ((first | exact ⟨n0, n1, n2, n3, z9.ext⟩ | exact ⟨n0, n1, n2, n3, z9.ext.setCell (by omega) _⟩ | (refine ⟨by go_simp, by go_simp, by go_simp, by go_simp, ?_⟩; first | exact E1 | exact z9.ext.setCell (by show w.heap.size ≤ z2.val.heap.size; omega) _ | exact E1.trans (by repeat (first | (with_reducible exact Ext.refl _) | (with_reducible refine Ext.up ?_ _) | (with_reducible refine Ext.alloc ?_ _) | (with_reducible refine Ext.drew ?_) | (with_reducible refine Ext.setRow ?_ (by first | exact LeS.le | exact LeS.add _ | (simp; done) | (simp; omega)) _) | (with_reducible refine Ext.setCell ?_ (by first | exact LeS.le | exact LeS.add _ | (simp; done) | (simp; omega)) _))))))
  refine wpAnyH_take (i := 0) (v := ?_) (opAt rfl) (by kernel_rfl) (by kernel_rfl) (by kernel_rfl) (fun _ _ _ h => h) (Or.inl ⟨by rfl, ?_⟩) (by assumption) ?_
  rotate_left
  · (intro w hSw; (try dsimp only at hSw); go_simp) <;> with_reducible rfl
  try simp only [Act.put, List.setIfInBounds_toArray, List.set_cons_zero, List.set_cons_succ]
  refine wpAnyH_take (i := 2) (v := ?_) (opAt rfl) (by kernel_rfl) (by kernel_rfl) (by kernel_rfl) (fun _ _ _ h => h) (Or.inl ⟨by rfl, ?_⟩) (by assumption) ?_
  rotate_left
  · (intro w hSw; (try dsimp only at hSw); go_simp) <;> with_reducible rfl
  try simp only [Act.put, List.setIfInBounds_toArray, List.set_cons_zero, List.set_cons_succ]
  refine wpAnyH_take (i := 3) (v := ?_) (opAt rfl) (by kernel_rfl) (by kernel_rfl) (by kernel_rfl) (fun _ _ _ h => h) (Or.inl ⟨by rfl, ?_⟩) (by assumption) ?_
  rotate_left
  · (intro w hSw; (try dsimp only at hSw); go_simp) <;> with_reducible rfl
  try simp only [Act.put, List.setIfInBounds_toArray, List.set_cons_zero, List.set_cons_succ]
  refine wpAnyH_take (i := 4) (v := ?_) (opAt rfl) (by kernel_rfl) (by kernel_rfl) (by kernel_rfl) (fun _ _ _ h => h) (Or.inl ⟨by rfl, ?_⟩) (by assumption) ?_
  rotate_left
  · (intro w hSw; (try dsimp only at hSw); go_simp) <;> with_reducible rfl
  try simp only [Act.put, List.setIfInBounds_toArray, List.set_cons_zero, List.set_cons_succ]
  refine wpAnyH_ready (rs := [1, 5]) (by kernel_rfl) (by simp) ?_
  refine AllReadyH.cons (opAt rfl) (fun K hK => ?_) ?_
  · go_simp
    refine hK.out _ _ ?_ (fun hHeld1 => ?_)
    · (try dsimp only)
      ((first | exact ⟨n0, n1, n2, n3, z9.ext⟩ | exact ⟨n0, n1, n2, n3, z9.ext.setCell (by omega) _⟩ | (refine ⟨by go_simp, by go_simp, by go_simp, by go_simp, ?_⟩; first | exact E1 | exact z9.ext.setCell (by show w.heap.size ≤ z2.val.heap.size; omega) _ | exact E1.trans (by repeat (first | (with_reducible exact Ext.refl _) | (with_reducible refine Ext.up ?_ _) | (with_reducible refine Ext.alloc ?_ _) | (with_reducible refine Ext.drew ?_) | (with_reducible refine Ext.setRow ?_ (by first | exact LeS.le | exact LeS.add _ | (simp; done) | (simp; omega)) _) | (with_reducible refine Ext.setCell ?_ (by first | exact LeS.le | exact LeS.add _ | (simp; done) | (simp; omega)) _))))))
    clear hK K hHeld
    have hHeld := hHeld1; clear hHeld1
    try simp only [Act.put, List.setIfInBounds_toArray, List.set_cons_zero, List.set_cons_succ]
    refine wpAnyH_ready (rs := [5]) (by kernel_rfl) (by simp) ?_
    refine AllReadyH.cons (opAt rfl) (fun K hK => ?_) ?_
    · go_simp
      (go_at_call 38; refine (l13Find_any t _ _ _ b.bf _ (H.out.up (E1.trans (by repeat (first | (with_reducible exact Ext.refl _) | (with_reducible refine Ext.up ?_ _) | (with_reducible refine Ext.alloc ?_ _) | (with_reducible refine Ext.drew ?_) | (with_reducible refine Ext.setRow ?_ (by first | exact LeS.le | exact LeS.add _ | (simp; done) | (simp; omega)) _) | (with_reducible refine Ext.setCell ?_ (by first | exact LeS.le | exact LeS.add _ | (simp; done) | (simp; omega)) _)))))).mono ?_; rintro e w' ⟨rfl, z8', rfl⟩)
      try go_wp2_with fail
      refine hK.out _ _ ?_ (fun hHeld1 => ?_)
      · (try dsimp only)
        ((first | exact ⟨n0, n1, n2, n3, z9.ext⟩ | exact ⟨n0, n1, n2, n3, z9.ext.setCell (by omega) _⟩ | (refine ⟨by go_simp, by go_simp, by go_simp, by go_simp, ?_⟩; first | exact E1 | exact z9.ext.setCell (by show w.heap.size ≤ z2.val.heap.size; omega) _ | exact E1.trans (by repeat (first | (with_reducible exact Ext.refl _) | (with_reducible refine Ext.up ?_ _) | (with_reducible refine Ext.alloc ?_ _) | (with_reducible refine Ext.drew ?_) | (with_reducible refine Ext.setRow ?_ (by first | exact LeS.le | exact LeS.add _ | (simp; done) | (simp; omega)) _) | (with_reducible refine Ext.setCell ?_ (by first | exact LeS.le | exact LeS.add _ | (simp; done) | (simp; omega)) _))))))
      clear hK K hHeld
      have hHeld := hHeld1; clear hHeld1
      try simp only [Act.put, List.setIfInBounds_toArray, List.set_cons_zero, List.set_cons_succ]
      refine wpAnyH_ready (rs := [6]) (by kernel_rfl) (by simp) ?_
      refine AllReadyH.cons (opAt rfl) (fun K hK => ?_) ?_
      · go_simp
        refine hK.out _ _ ?_ (fun hHeld1 => ?_)
        · (try dsimp only)
          ((first | exact ⟨n0, n1, n2, n3, z9.ext⟩ | exact ⟨n0, n1, n2, n3, z9.ext.setCell (by omega) _⟩ | (refine ⟨by go_simp, by go_simp, by go_simp, by go_simp, ?_⟩; first | exact E1 | exact z9.ext.setCell (by show w.heap.size ≤ z2.val.heap.size; omega) _ | exact E1.trans (by repeat (first | (with_reducible exact Ext.refl _) | (with_reducible refine Ext.up ?_ _) | (with_reducible refine Ext.alloc ?_ _) | (with_reducible refine Ext.drew ?_) | (with_reducible refine Ext.setRow ?_ (by first | exact LeS.le | exact LeS.add _ | (simp; done) | (simp; omega)) _) | (with_reducible refine Ext.setCell ?_ (by first | exact LeS.le | exact LeS.add _ | (simp; done) | (simp; omega)) _))))))
        clear hK K hHeld
        have hHeld := hHeld1; clear hHeld1
        try simp only [Act.put, List.setIfInBounds_toArray, List.set_cons_zero, List.set_cons_succ]
        refine wpAnyH_ready (rs := [7]) (by kernel_rfl) (by simp) ?_
        refine AllReadyH.cons (opAt rfl) (fun K hK => ?_) ?_
        · (refine step_pushG fI (by rfl) (.tmp 25) (.tmp 30) (by rfl) encI encI_length w (lo := z1.val.heap.size) [findB t.bs b.bf] t.pr (by rfl) (by rfl) (heap_alloc_new _ _) ((OA1.out.opr).up (by repeat (first | (with_reducible exact Ext.refl _) | (with_reducible refine Ext.up ?_ _) | (with_reducible refine Ext.alloc ?_ _) | (with_reducible refine Ext.drew ?_) | (with_reducible refine Ext.setRow ?_ (by first | exact LeS.le | exact LeS.add _ | (simp; done) | (simp; omega)) _) | (with_reducible refine Ext.setCell ?_ (by first | exact LeS.le | exact LeS.add _ | (simp; done) | (simp; omega)) _)))) (E1.trans (by repeat (first | (with_reducible exact Ext.refl _) | (with_reducible refine Ext.up ?_ _) | (with_reducible refine Ext.alloc ?_ _) | (with_reducible refine Ext.drew ?_) | (with_reducible refine Ext.setRow ?_ (by first | exact LeS.le | exact LeS.add _ | (simp; done) | (simp; omega)) _) | (with_reducible refine Ext.setCell ?_ (by first | exact LeS.le | exact LeS.add _ | (simp; done) | (simp; omega)) _)))) (by omega) (by first | omega | (have := z8'.ext.size; simp at this ⊢; omega)) (by rfl) (by decide) (by rfl) (oneIs _) (by simp; omega) (by simp; omega) ?_; intro v9 z9 o9 g9 b9; obtain ⟨p9, c9, hv9, _, _⟩ := (o9.sl encI_length).openc; rw [List.length_append] at hv9; rw [show ([findB t.bs b.bf] : List Int).length = 1 from rfl] at hv9; subst hv9; have hs9 : W1.heap.size ≤ z9.val.heap.size := (by have h5 := z8'.ext.size; have h6 := g9.size; simp at h5 h6; omega); have n0 : z9.val.cell? ⟨w.heap.size, 0, none⟩ = some (.slice p0 t.base.length c0) := (cell_grown g9 (by have h5 := z8'.ext.size; simp at h5 ⊢; omega) (hN2 _ (.inl (by omega)))).trans (by go_simp); have n1 : z9.val.cell? ⟨w.heap.size, 1, none⟩ = some (.slice p1 t.bs.length c1) := (cell_grown g9 (by have h5 := z8'.ext.size; simp at h5 ⊢; omega) (hN2 _ (.inl (by omega)))).trans (by go_simp); have n2 : z9.val.cell? ⟨w.heap.size, 2, none⟩ = some (.slice p2 t.pr.length c2) := (cell_grown g9 (by have h5 := z8'.ext.size; simp at h5 ⊢; omega) (hN2 _ (.inl (by omega)))).trans (by go_simp); have n3 : z9.val.cell? ⟨w.heap.size + 1, 0, none⟩ = some (.int .i64 b.bf) := (cell_grown g9 (by have h5 := z8'.ext.size; simp at h5 ⊢; omega) (hN2 _ (.inl (by omega)))).trans (by go_simp); have n4 : z9.val.cell? ⟨z2.val.heap.size, 2, none⟩ = some (.slice q2 t.pr.length d2) := (cell_grown g9 (by have h5 := z8'.ext.size; simp at h5 ⊢; omega) (hN2 _ (.inr (Nat.le_refl _)))).trans (by go_simp); have n5 : z9.val.frozen? ⟨z2.val.heap.size, 2, none⟩ = false := (frozen_grown g9 (by have h5 := z8'.ext.size; simp at h5 ⊢; omega) (hN2 _ (.inr (Nat.le_refl _)))).trans (by go_simp); have m4 : z9.val.cell? ⟨z2.val.heap.size, 0, none⟩ = some (.slice q0 t.base.length d0) := (cell_grown g9 (by have h5 := z8'.ext.size; simp at h5 ⊢; omega) (hN2 _ (.inr (Nat.le_refl _)))).trans (by go_simp); have m5 : z9.val.cell? ⟨z2.val.heap.size, 1, none⟩ = some (.slice p7 (bs.length + 1) c7) := (cell_grown g9 (by have h5 := z8'.ext.size; simp at h5 ⊢; omega) (hN2 _ (.inr (Nat.le_refl _)))).trans (by go_simp); have mR0 : z9.val.cell? ⟨w.heap.size + 1 + 1, 0, none⟩ = some (.slice none 0 0) := (cell_grown g9 (by have h5 := z8'.ext.size; simp at h5 ⊢; omega) (hN2 _ (.inl (by omega)))).trans (by go_simp); have mR1 : z9.val.cell? ⟨w.heap.size + 1 + 1, 1, none⟩ = some (.slice none 0 0) := (cell_grown g9 (by have h5 := z8'.ext.size; simp at h5 ⊢; omega) (hN2 _ (.inl (by omega)))).trans (by go_simp); have mR2 : z9.val.cell? ⟨w.heap.size + 1 + 1, 2, none⟩ = some (.slice none 0 0) := (cell_grown g9 (by have h5 := z8'.ext.size; simp at h5 ⊢; omega) (hN2 _ (.inl (by omega)))).trans (by go_simp); have mf0 : z9.val.frozen? ⟨w.heap.size + 1 + 1, 0, none⟩ = false := (frozen_grown g9 (by have h5 := z8'.ext.size; simp at h5 ⊢; omega) (hN2 _ (.inl (by omega)))).trans (by go_simp); have mf1 : z9.val.frozen? ⟨w.heap.size + 1 + 1, 1, none⟩ = false := (frozen_grown g9 (by have h5 := z8'.ext.size; simp at h5 ⊢; omega) (hN2 _ (.inl (by omega)))).trans (by go_simp); have mf2 : z9.val.frozen? ⟨w.heap.size + 1 + 1, 2, none⟩ = false := (frozen_grown g9 (by have h5 := z8'.ext.size; simp at h5 ⊢; omega) (hN2 _ (.inl (by omega)))).trans (by go_simp); have OA9 := Lib.hid (OTA.snocI (OA1.out.up (by repeat (first | (with_reducible exact Ext.refl _) | (with_reducible refine Ext.up ?_ _) | (with_reducible refine Ext.alloc ?_ _) | (with_reducible refine Ext.drew ?_) | (with_reducible refine Ext.setRow ?_ (by first | exact LeS.le | exact LeS.add _ | (simp; done) | (simp; omega)) _) | (with_reducible refine Ext.setCell ?_ (by first | exact LeS.le | exact LeS.add _ | (simp; done) | (simp; omega)) _)))) g9 b9 o9); have hN9 : (Value.slice p9 (t.pr.length + 1) c9).ownBlock ≠ some z2.val.heap.size := (by rcases b9 with e9 | e9 <;> rw [e9]; (exact hN2 _ (.inr (Nat.le_refl _))); (have h5 := z8'.ext.size; simp at h5 ⊢; omega)); have hE9 := Lib.hid (show w.heap.size ≤ z9.val.heap.size from z9.ext.size); clear o9 g9 b9)
          refine hK.out _ _ ?_ (fun hHeld1 => ?_)
          · (try dsimp only)
            ((first | exact ⟨n0, n1, n2, n3, z9.ext⟩ | exact ⟨n0, n1, n2, n3, z9.ext.setCell (by omega) _⟩ | (refine ⟨by go_simp, by go_simp, by go_simp, by go_simp, ?_⟩; first | exact E1 | exact z9.ext.setCell (by show w.heap.size ≤ z2.val.heap.size; omega) _ | exact E1.trans (by repeat (first | (with_reducible exact Ext.refl _) | (with_reducible refine Ext.up ?_ _) | (with_reducible refine Ext.alloc ?_ _) | (with_reducible refine Ext.drew ?_) | (with_reducible refine Ext.setRow ?_ (by first | exact LeS.le | exact LeS.add _ | (simp; done) | (simp; omega)) _) | (with_reducible refine Ext.setCell ?_ (by first | exact LeS.le | exact LeS.add _ | (simp; done) | (simp; omega)) _))))))
          clear hK K hHeld
          have hHeld := hHeld1; clear hHeld1
          try simp only [Act.put, List.setIfInBounds_toArray, List.set_cons_zero, List.set_cons_succ]
          refine wpAnyH_take (i := 8) (v := ?_) (opAt rfl) (by kernel_rfl) (by kernel_rfl) (by kernel_rfl) (fun _ _ _ h => h) (Or.inl ⟨by rfl, ?_⟩) (by assumption) ?_
          rotate_left
          · (intro w hSw; (try dsimp only at hSw); go_simp) <;> with_reducible rfl
          try simp only [Act.put, List.setIfInBounds_toArray, List.set_cons_zero, List.set_cons_succ]
          refine wpAnyH_ready (rs := [9]) (by kernel_rfl) (by simp) ?_
          refine AllReadyH.cons (opAt rfl) (fun K hK => ?_) ?_
          · go_simp
            refine hK.out _ _ ?_ (fun hHeld1 => ?_)
            · (try dsimp only)
              ((first | exact ⟨n0, n1, n2, n3, z9.ext⟩ | exact ⟨n0, n1, n2, n3, z9.ext.setCell (by omega) _⟩ | (refine ⟨by go_simp, by go_simp, by go_simp, by go_simp, ?_⟩; first | exact E1 | exact z9.ext.setCell (by show w.heap.size ≤ z2.val.heap.size; omega) _ | exact E1.trans (by repeat (first | (with_reducible exact Ext.refl _) | (with_reducible refine Ext.up ?_ _) | (with_reducible refine Ext.alloc ?_ _) | (with_reducible refine Ext.drew ?_) | (with_reducible refine Ext.setRow ?_ (by first | exact LeS.le | exact LeS.add _ | (simp; done) | (simp; omega)) _) | (with_reducible refine Ext.setCell ?_ (by first | exact LeS.le | exact LeS.add _ | (simp; done) | (simp; omega)) _))))))
            clear hK K hHeld
            have hHeld := hHeld1; clear hHeld1
            try simp only [Act.put, List.setIfInBounds_toArray, List.set_cons_zero, List.set_cons_succ]
            refine wpAnyH_done (by kernel_rfl) ?_ _
            have Hbs1 := Lib.hid (show (bs ++ [(⟨b, .slice p8 bl.length c8, bl⟩ : TB)]).map TB.core = t.bs ++ [(b, bl)] by rw [List.map_append, Hm.out]; rfl)
            generalize hW3' : World.setCell z9.val ⟨z2.val.heap.size, 2, none⟩ (.slice p9 (t.pr.length + 1) c9) = W3
            have hW3 := hW3'.symm; clear hW3'
            have E3 : Ext w W3 := by rw [hW3]; exact z9.ext.setCell (by show w.heap.size ≤ z2.val.heap.size; omega) _
            have hs3 : W3.heap.size = z9.val.heap.size := by rw [hW3]; simp [setCell_sz]
            have OA3 := Lib.hid (show OTA 61 39 85 3 z1.val.heap.size W3 (.slice q0 t.base.length d0) (.slice p7 (bs.length + 1) c7) (.slice p9 (t.pr.length + 1) c9) t.base (bs ++ [⟨b, .slice p8 bl.length c8, bl⟩]) (t.pr ++ [findB t.bs b.bf]) from by rw [hW3]; exact OA9.out.set _ _ hX.1 hN7 hN9 hXb)
            have n0x : W3.cell? ⟨w.heap.size, 0, none⟩ = some (.slice p0 t.base.length c0) := by rw [hW3]; go_simp
            have n1x : W3.cell? ⟨w.heap.size, 1, none⟩ = some (.slice p1 t.bs.length c1) := by rw [hW3]; go_simp
            have n2x : W3.cell? ⟨w.heap.size, 2, none⟩ = some (.slice p2 t.pr.length c2) := by rw [hW3]; go_simp
            have m4x : W3.cell? ⟨z2.val.heap.size, 0, none⟩ = some (.slice q0 t.base.length d0) := by rw [hW3]; go_simp
            have m5x : W3.cell? ⟨z2.val.heap.size, 1, none⟩ = some (.slice p7 (bs.length + 1) c7) := by rw [hW3]; go_simp
            have m6x : W3.cell? ⟨z2.val.heap.size, 2, none⟩ = some (.slice p9 (t.pr.length + 1) c9) := by rw [hW3]; go_simp
            have mR0x : W3.cell? ⟨w.heap.size + 1 + 1, 0, none⟩ = some (.slice none 0 0) := by rw [hW3]; go_simp
            have mR1x : W3.cell? ⟨w.heap.size + 1 + 1, 1, none⟩ = some (.slice none 0 0) := by rw [hW3]; go_simp
            have mR2x : W3.cell? ⟨w.heap.size + 1 + 1, 2, none⟩ = some (.slice none 0 0) := by rw [hW3]; go_simp
            have mf0x : W3.frozen? ⟨w.heap.size + 1 + 1, 0, none⟩ = false := by rw [hW3]; go_simp
            have mf1x : W3.frozen? ⟨w.heap.size + 1 + 1, 1, none⟩ = false := by rw [hW3]; go_simp
            have mf2x : W3.frozen? ⟨w.heap.size + 1 + 1, 2, none⟩ = false := by rw [hW3]; go_simp
            clear hW3 OA9 n0 n1 n2 n3 n4 n5 m4 m5 mR0 mR1 mR2 mf0 mf1 mf2
            have gXs : z2.val.heap.size < W3.heap.size := by have := hLtX.lt; omega
            have gRs : w.heap.size + 1 + 1 < W3.heap.size := by omega
            obtain ⟨z12, rfl⟩ := Up.of E3
            have hK0 : LtS w.heap.size z12.val := ⟨by omega⟩
            have hK2 : LtS (w.heap.size + 1 + 1) z12.val := ⟨gRs⟩
            have hKX : LtS z2.val.heap.size z12.val := ⟨gXs⟩
            have kv2 := fun w h => sTreeValid_any ⟨t.base, t.bs ++ [(b, bl)], t.pr ++ [findB t.bs b.bf]⟩ (.slice q0 t.base.length d0) (.slice p7 (bs.length + 1) c7) (.slice p9 (t.pr.length + 1) c9) w h
            have ST2 := Lib.hid (OTA.st' (t := ⟨t.base, t.bs ++ [(b, bl)], t.pr ++ [findB t.bs b.bf]⟩) OA3.out Hbs1.out)
            rcases hok2 : Tree.ok ⟨t.base, t.bs ++ [(b, bl)], t.pr ++ [findB t.bs b.bf]⟩ with _ | _
            · simp only [hok2] at kv2
              clear hok2
              go_wp2_with (go_at_call 11; refine (kv2 _ (ST2.out.up (by repeat (first | (with_reducible exact Ext.refl _) | (with_reducible refine Ext.up ?_ _) | (with_reducible refine Ext.alloc ?_ _) | (with_reducible refine Ext.drew ?_) | (with_reducible refine Ext.setRow ?_ (by first | exact LeS.le | exact LeS.add _ | (simp; done) | (simp; omega)) _) | (with_reducible refine Ext.setCell ?_ (by first | exact LeS.le | exact LeS.add _ | (simp; done) | (simp; omega)) _))))).mono ?_; rintro e w' ⟨rfl, z10, rfl⟩)
              refine (sCopy_any t _ _ _ _ (H.out.up (by repeat (first | (with_reducible exact Ext.refl _) | (with_reducible refine Ext.up ?_ _) | (with_reducible refine Ext.alloc ?_ _) | (with_reducible refine Ext.drew ?_) | (with_reducible refine Ext.setRow ?_ (by first | exact LeS.le | exact LeS.add _ | (simp; done) | (simp; omega)) _) | (with_reducible refine Ext.setCell ?_ (by first | exact LeS.le | exact LeS.add _ | (simp; done) | (simp; omega)) _)))) (by omega) (by omega) (fun x hx => by have := K4.out x hx; omega) (by omega)).mono ?_; rintro e w' ⟨y0, y1, y2, bs', rfl, ⟨z11, rfl⟩, hm', ot'⟩
              obtain ⟨g0, h0, rfl, _, _⟩ := (ot'.obase.sl Ent.enc_length).openc
              obtain ⟨g1, h1, rfl, _, _⟩ := (ot'.obs.1.sl TB.enc_length).openc
              obtain ⟨g2, h2, rfl, _, _⟩ := (ot'.opr.sl encI_length).openc
              have OT' := Lib.hid ot'; have Hm' := Lib.hid hm'; clear ot' hm'
              go_wp2_with fail
              have hz10 := z10.ext.size
              have r0 : z11.val.cell? ⟨w.heap.size + 1 + 1, 0, none⟩ = some (.slice none 0 0) := by go_simp
              have r1 : z11.val.cell? ⟨w.heap.size + 1 + 1, 1, none⟩ = some (.slice none 0 0) := by go_simp
              have r2 : z11.val.cell? ⟨w.heap.size + 1 + 1, 2, none⟩ = some (.slice none 0 0) := by go_simp
              refine bodyPost_ret (v := .tuple #[.agg #[.slice g0 t.base.length h0, .slice g1 bs'.length h1, .slice g2 t.pr.length h2], .bool false]) (by simp [results, Try.results79, go_sem, r0, r1, r2]) rfl ?_
              refine ⟨_, _, _, t, bs', false, rfl, (.of (by repeat (first | (with_reducible exact Ext.refl _) | (with_reducible refine Ext.up ?_ _) | (with_reducible refine Ext.alloc ?_ _) | (with_reducible refine Ext.drew ?_) | (with_reducible refine Ext.setRow ?_ (by first | exact LeS.le | exact LeS.add _ | (simp; done) | (simp; omega)) _) | (with_reducible refine Ext.setCell ?_ (by first | exact LeS.le | exact LeS.add _ | (simp; done) | (simp; omega)) _)))), Hok.out, Nat.le_refl _, Hm'.out, ?_⟩
              exact (((OT'.out.setOld _ _ (by show w.heap.size + 1 + 1 < _; omega)).setOld _ _ (by show w.heap.size + 1 + 1 < _; omega)).setOld _ _ (by show w.heap.size + 1 + 1 < _; omega)).lo (by omega)
            · simp only [hok2] at kv2
              go_wp2_with (go_at_call 11; refine (kv2 _ (ST2.out.up (by repeat (first | (with_reducible exact Ext.refl _) | (with_reducible refine Ext.up ?_ _) | (with_reducible refine Ext.alloc ?_ _) | (with_reducible refine Ext.drew ?_) | (with_reducible refine Ext.setRow ?_ (by first | exact LeS.le | exact LeS.add _ | (simp; done) | (simp; omega)) _) | (with_reducible refine Ext.setCell ?_ (by first | exact LeS.le | exact LeS.add _ | (simp; done) | (simp; omega)) _))))).mono ?_; rintro e w' ⟨rfl, z10, rfl⟩)
              have r0 : z10.val.cell? ⟨w.heap.size + 1 + 1, 0, none⟩ = some (.slice none 0 0) := by go_simp
              have r1 : z10.val.cell? ⟨w.heap.size + 1 + 1, 1, none⟩ = some (.slice none 0 0) := by go_simp
              have r2 : z10.val.cell? ⟨w.heap.size + 1 + 1, 2, none⟩ = some (.slice none 0 0) := by go_simp
              refine bodyPost_ret (v := .tuple #[.agg #[.slice q0 t.base.length d0, .slice p7 (bs.length + 1) c7, .slice p9 (t.pr.length + 1) c9], .bool true]) (by simp [results, Try.results79, go_sem, r0, r1, r2]) rfl ?_
              refine ⟨_, _, _, ⟨t.base, t.bs ++ [(b, bl)], t.pr ++ [findB t.bs b.bf]⟩, bs ++ [⟨b, .slice p8 bl.length c8, bl⟩], true, rfl, (.of (by repeat (first | (with_reducible exact Ext.refl _) | (with_reducible refine Ext.up ?_ _) | (with_reducible refine Ext.alloc ?_ _) | (with_reducible refine Ext.drew ?_) | (with_reducible refine Ext.setRow ?_ (by first | exact LeS.le | exact LeS.add _ | (simp; done) | (simp; omega)) _) | (with_reducible refine Ext.setCell ?_ (by first | exact LeS.le | exact LeS.add _ | (simp; done) | (simp; omega)) _)))), hok2, by simp, Hbs1.out, ?_⟩
              exact (((((OA3.out.up (by repeat (first | (with_reducible exact Ext.refl _) | (with_reducible refine Ext.up ?_ _) | (with_reducible refine Ext.alloc ?_ _) | (with_reducible refine Ext.drew ?_) | (with_reducible refine Ext.setRow ?_ (by first | exact LeS.le | exact LeS.add _ | (simp; done) | (simp; omega)) _) | (with_reducible refine Ext.setCell ?_ (by first | exact LeS.le | exact LeS.add _ | (simp; done) | (simp; omega)) _)))).setOld _ _ (by show w.heap.size + 1 + 1 < _; omega)).setOld _ _ (by show w.heap.size + 1 + 1 < _; omega)).setOld _ _ (by show w.heap.size + 1 + 1 < _; omega))).lo (by omega)
          exact AllReadyH.nil
        exact AllReadyH.nil
      exact AllReadyH.nil
    exact AllReadyH.nil
  refine AllReadyH.cons (opAt rfl) (fun K hK => ?_) ?_
  · go_simp
    (go_at_call 38; refine (l13Find_any t _ _ _ b.bf _ (H.out.up (E1.trans (by repeat (first | (with_reducible exact Ext.refl _) | (with_reducible refine Ext.up ?_ _) | (with_reducible refine Ext.alloc ?_ _) | (with_reducible refine Ext.drew ?_) | (with_reducible refine Ext.setRow ?_ (by first | exact LeS.le | exact LeS.add _ | (simp; done) | (simp; omega)) _) | (with_reducible refine Ext.setCell ?_ (by first | exact LeS.le | exact LeS.add _ | (simp; done) | (simp; omega)) _)))))).mono ?_; rintro e w' ⟨rfl, z8', rfl⟩)
    try go_wp2_with fail
    refine hK.out _ _ ?_ (fun hHeld1 => ?_)
    · (try dsimp only)
      ((first | exact ⟨n0, n1, n2, n3, z9.ext⟩ | exact ⟨n0, n1, n2, n3, z9.ext.setCell (by omega) _⟩ | (refine ⟨by go_simp, by go_simp, by go_simp, by go_simp, ?_⟩; first | exact E1 | exact z9.ext.setCell (by show w.heap.size ≤ z2.val.heap.size; omega) _ | exact E1.trans (by repeat (first | (with_reducible exact Ext.refl _) | (with_reducible refine Ext.up ?_ _) | (with_reducible refine Ext.alloc ?_ _) | (with_reducible refine Ext.drew ?_) | (with_reducible refine Ext.setRow ?_ (by first | exact LeS.le | exact LeS.add _ | (simp; done) | (simp; omega)) _) | (with_reducible refine Ext.setCell ?_ (by first | exact LeS.le | exact LeS.add _ | (simp; done) | (simp; omega)) _))))))
    clear hK K hHeld
    have hHeld := hHeld1; clear hHeld1
    try simp only [Act.put, List.setIfInBounds_toArray, List.set_cons_zero, List.set_cons_succ]
    refine wpAnyH_ready (rs := [1, 6]) (by kernel_rfl) (by simp) ?_
    refine AllReadyH.cons (opAt rfl) (fun K hK => ?_) ?_
    · go_simp
      refine hK.out _ _ ?_ (fun hHeld1 => ?_)
      · (try dsimp only)
        ((first | exact ⟨n0, n1, n2, n3, z9.ext⟩ | exact ⟨n0, n1, n2, n3, z9.ext.setCell (by omega) _⟩ | (refine ⟨by go_simp, by go_simp, by go_simp, by go_simp, ?_⟩; first | exact E1 | exact z9.ext.setCell (by show w.heap.size ≤ z2.val.heap.size; omega) _ | exact E1.trans (by repeat (first | (with_reducible exact Ext.refl _) | (with_reducible refine Ext.up ?_ _) | (with_reducible refine Ext.alloc ?_ _) | (with_reducible refine Ext.drew ?_) | (with_reducible refine Ext.setRow ?_ (by first | exact LeS.le | exact LeS.add _ | (simp; done) | (simp; omega)) _) | (with_reducible refine Ext.setCell ?_ (by first | exact LeS.le | exact LeS.add _ | (simp; done) | (simp; omega)) _))))))
      clear hK K hHeld
      have hHeld := hHeld1; clear hHeld1
      try simp only [Act.put, List.setIfInBounds_toArray, List.set_cons_zero, List.set_cons_succ]
      refine wpAnyH_ready (rs := [6]) (by kernel_rfl) (by simp) ?_
      refine AllReadyH.cons (opAt rfl) (fun K hK => ?_) ?_
      · go_simp
        refine hK.out _ _ ?_ (fun hHeld1 => ?_)
        · (try dsimp only)
          ((first | exact ⟨n0, n1, n2, n3, z9.ext⟩ | exact ⟨n0, n1, n2, n3, z9.ext.setCell (by omega) _⟩ | (refine ⟨by go_simp, by go_simp, by go_simp, by go_simp, ?_⟩; first | exact E1 | exact z9.ext.setCell (by show w.heap.size ≤ z2.val.heap.size; omega) _ | exact E1.trans (by repeat (first | (with_reducible exact Ext.refl _) | (with_reducible refine Ext.up ?_ _) | (with_reducible refine Ext.alloc ?_ _) | (with_reducible refine Ext.drew ?_) | (with_reducible refine Ext.setRow ?_ (by first | exact LeS.le | exact LeS.add _ | (simp; done) | (simp; omega)) _) | (with_reducible refine Ext.setCell ?_ (by first | exact LeS.le | exact LeS.add _ | (simp; done) | (simp; omega)) _))))))
        clear hK K hHeld
        have hHeld := hHeld1; clear hHeld1
        try simp only [Act.put, List.setIfInBounds_toArray, List.set_cons_zero, List.set_cons_succ]
        refine wpAnyH_ready (rs := [7]) (by kernel_rfl) (by simp) ?_
        refine AllReadyH.cons (opAt rfl) (fun K hK => ?_) ?_
        · (refine step_pushG fI (by rfl) (.tmp 25) (.tmp 30) (by rfl) encI encI_length w (lo := z1.val.heap.size) [findB t.bs b.bf] t.pr (by rfl) (by rfl) (heap_alloc_new _ _) ((OA1.out.opr).up (by repeat (first | (with_reducible exact Ext.refl _) | (with_reducible refine Ext.up ?_ _) | (with_reducible refine Ext.alloc ?_ _) | (with_reducible refine Ext.drew ?_) | (with_reducible refine Ext.setRow ?_ (by first | exact LeS.le | exact LeS.add _ | (simp; done) | (simp; omega)) _) | (with_reducible refine Ext.setCell ?_ (by first | exact LeS.le | exact LeS.add _ | (simp; done) | (simp; omega)) _)))) (E1.trans (by repeat (first | (with_reducible exact Ext.refl _) | (with_reducible refine Ext.up ?_ _) | (with_reducible refine Ext.alloc ?_ _) | (with_reducible refine Ext.drew ?_) | (with_reducible refine Ext.setRow ?_ (by first | exact LeS.le | exact LeS.add _ | (simp; done) | (simp; omega)) _) | (with_reducible refine Ext.setCell ?_ (by first | exact LeS.le | exact LeS.add _ | (simp; done) | (simp; omega)) _)))) (by omega) (by first | omega | (have := z8'.ext.size; simp at this ⊢; omega)) (by rfl) (by decide) (by rfl) (oneIs _) (by simp; omega) (by simp; omega) ?_; intro v9 z9 o9 g9 b9; obtain ⟨p9, c9, hv9, _, _⟩ := (o9.sl encI_length).openc; rw [List.length_append] at hv9; rw [show ([findB t.bs b.bf] : List Int).length = 1 from rfl] at hv9; subst hv9; have hs9 : W1.heap.size ≤ z9.val.heap.size := (by have h5 := z8'.ext.size; have h6 := g9.size; simp at h5 h6; omega); have n0 : z9.val.cell? ⟨w.heap.size, 0, none⟩ = some (.slice p0 t.base.length c0) := (cell_grown g9 (by have h5 := z8'.ext.size; simp at h5 ⊢; omega) (hN2 _ (.inl (by omega)))).trans (by go_simp); have n1 : z9.val.cell? ⟨w.heap.size, 1, none⟩ = some (.slice p1 t.bs.length c1) := (cell_grown g9 (by have h5 := z8'.ext.size; simp at h5 ⊢; omega) (hN2 _ (.inl (by omega)))).trans (by go_simp); have n2 : z9.val.cell? ⟨w.heap.size, 2, none⟩ = some (.slice p2 t.pr.length c2) := (cell_grown g9 (by have h5 := z8'.ext.size; simp at h5 ⊢; omega) (hN2 _ (.inl (by omega)))).trans (by go_simp); have n3 : z9.val.cell? ⟨w.heap.size + 1, 0, none⟩ = some (.int .i64 b.bf) := (cell_grown g9 (by have h5 := z8'.ext.size; simp at h5 ⊢; omega) (hN2 _ (.inl (by omega)))).trans (by go_simp); have n4 : z9.val.cell? ⟨z2.val.heap.size, 2, none⟩ = some (.slice q2 t.pr.length d2) := (cell_grown g9 (by have h5 := z8'.ext.size; simp at h5 ⊢; omega) (hN2 _ (.inr (Nat.le_refl _)))).trans (by go_simp); have n5 : z9.val.frozen? ⟨z2.val.heap.size, 2, none⟩ = false := (frozen_grown g9 (by have h5 := z8'.ext.size; simp at h5 ⊢; omega) (hN2 _ (.inr (Nat.le_refl _)))).trans (by go_simp); have m4 : z9.val.cell? ⟨z2.val.heap.size, 0, none⟩ = some (.slice q0 t.base.length d0) := (cell_grown g9 (by have h5 := z8'.ext.size; simp at h5 ⊢; omega) (hN2 _ (.inr (Nat.le_refl _)))).trans (by go_simp); have m5 : z9.val.cell? ⟨z2.val.heap.size, 1, none⟩ = some (.slice p7 (bs.length + 1) c7) := (cell_grown g9 (by have h5 := z8'.ext.size; simp at h5 ⊢; omega) (hN2 _ (.inr (Nat.le_refl _)))).trans (by go_simp); have mR0 : z9.val.cell? ⟨w.heap.size + 1 + 1, 0, none⟩ = some (.slice none 0 0) := (cell_grown g9 (by have h5 := z8'.ext.size; simp at h5 ⊢; omega) (hN2 _ (.inl (by omega)))).trans (by go_simp); have mR1 : z9.val.cell? ⟨w.heap.size + 1 + 1, 1, none⟩ = some (.slice none 0 0) := (cell_grown g9 (by have h5 := z8'.ext.size; simp at h5 ⊢; omega) (hN2 _ (.inl (by omega)))).trans (by go_simp); have mR2 : z9.val.cell? ⟨w.heap.size + 1 + 1, 2, none⟩ = some (.slice none 0 0) := (cell_grown g9 (by have h5 := z8'.ext.size; simp at h5 ⊢; omega) (hN2 _ (.inl (by omega)))).trans (by go_simp); have mf0 : z9.val.frozen? ⟨w.heap.size + 1 + 1, 0, none⟩ = false := (frozen_grown g9 (by have h5 := z8'.ext.size; simp at h5 ⊢; omega) (hN2 _ (.inl (by omega)))).trans (by go_simp); have mf1 : z9.val.frozen? ⟨w.heap.size + 1 + 1, 1, none⟩ = false := (frozen_grown g9 (by have h5 := z8'.ext.size; simp at h5 ⊢; omega) (hN2 _ (.inl (by omega)))).trans (by go_simp); have mf2 : z9.val.frozen? ⟨w.heap.size + 1 + 1, 2, none⟩ = false := (frozen_grown g9 (by have h5 := z8'.ext.size; simp at h5 ⊢; omega) (hN2 _ (.inl (by omega)))).trans (by go_simp); have OA9 := Lib.hid (OTA.snocI (OA1.out.up (by repeat (first | (with_reducible exact Ext.refl _) | (with_reducible refine Ext.up ?_ _) | (with_reducible refine Ext.alloc ?_ _) | (with_reducible refine Ext.drew ?_) | (with_reducible refine Ext.setRow ?_ (by first | exact LeS.le | exact LeS.add _ | (simp; done) | (simp; omega)) _) | (with_reducible refine Ext.setCell ?_ (by first | exact LeS.le | exact LeS.add _ | (simp; done) | (simp; omega)) _)))) g9 b9 o9); have hN9 : (Value.slice p9 (t.pr.length + 1) c9).ownBlock ≠ some z2.val.heap.size := (by rcases b9 with e9 | e9 <;> rw [e9]; (exact hN2 _ (.inr (Nat.le_refl _))); (have h5 := z8'.ext.size; simp at h5 ⊢; omega)); have hE9 := Lib.hid (show w.heap.size ≤ z9.val.heap.size from z9.ext.size); clear o9 g9 b9)
          refine hK.out _ _ ?_ (fun hHeld1 => ?_)
          · (try dsimp only)
            ((first | exact ⟨n0, n1, n2, n3, z9.ext⟩ | exact ⟨n0, n1, n2, n3, z9.ext.setCell (by omega) _⟩ | (refine ⟨by go_simp, by go_simp, by go_simp, by go_simp, ?_⟩; first | exact E1 | exact z9.ext.setCell (by show w.heap.size ≤ z2.val.heap.size; omega) _ | exact E1.trans (by repeat (first | (with_reducible exact Ext.refl _) | (with_reducible refine Ext.up ?_ _) | (with_reducible refine Ext.alloc ?_ _) | (with_reducible refine Ext.drew ?_) | (with_reducible refine Ext.setRow ?_ (by first | exact LeS.le | exact LeS.add _ | (simp; done) | (simp; omega)) _) | (with_reducible refine Ext.setCell ?_ (by first | exact LeS.le | exact LeS.add _ | (simp; done) | (simp; omega)) _))))))
          clear hK K hHeld
          have hHeld := hHeld1; clear hHeld1
          try simp only [Act.put, List.setIfInBounds_toArray, List.set_cons_zero, List.set_cons_succ]
          refine wpAnyH_take (i := 8) (v := ?_) (opAt rfl) (by kernel_rfl) (by kernel_rfl) (by kernel_rfl) (fun _ _ _ h => h) (Or.inl ⟨by rfl, ?_⟩) (by assumption) ?_
          rotate_left
          · (intro w hSw; (try dsimp only at hSw); go_simp) <;> with_reducible rfl
          try simp only [Act.put, List.setIfInBounds_toArray, List.set_cons_zero, List.set_cons_succ]
          refine wpAnyH_ready (rs := [9]) (by kernel_rfl) (by simp) ?_
          refine AllReadyH.cons (opAt rfl) (fun K hK => ?_) ?_
          · go_simp
            refine hK.out _ _ ?_ (fun hHeld1 => ?_)
            · (try dsimp only)
              ((first | exact ⟨n0, n1, n2, n3, z9.ext⟩ | exact ⟨n0, n1, n2, n3, z9.ext.setCell (by omega) _⟩ | (refine ⟨by go_simp, by go_simp, by go_simp, by go_simp, ?_⟩; first | exact E1 | exact z9.ext.setCell (by show w.heap.size ≤ z2.val.heap.size; omega) _ | exact E1.trans (by repeat (first | (with_reducible exact Ext.refl _) | (with_reducible refine Ext.up ?_ _) | (with_reducible refine Ext.alloc ?_ _) | (with_reducible refine Ext.drew ?_) | (with_reducible refine Ext.setRow ?_ (by first | exact LeS.le | exact LeS.add _ | (simp; done) | (simp; omega)) _) | (with_reducible refine Ext.setCell ?_ (by first | exact LeS.le | exact LeS.add _ | (simp; done) | (simp; omega)) _))))))
            clear hK K hHeld
            have hHeld := hHeld1; clear hHeld1
            try simp only [Act.put, List.setIfInBounds_toArray, List.set_cons_zero, List.set_cons_succ]
            refine wpAnyH_done (by kernel_rfl) ?_ _
            have Hbs1 := Lib.hid (show (bs ++ [(⟨b, .slice p8 bl.length c8, bl⟩ : TB)]).map TB.core = t.bs ++ [(b, bl)] by rw [List.map_append, Hm.out]; rfl)
            generalize hW3' : World.setCell z9.val ⟨z2.val.heap.size, 2, none⟩ (.slice p9 (t.pr.length + 1) c9) = W3
            have hW3 := hW3'.symm; clear hW3'
            have E3 : Ext w W3 := by rw [hW3]; exact z9.ext.setCell (by show w.heap.size ≤ z2.val.heap.size; omega) _
            have hs3 : W3.heap.size = z9.val.heap.size := by rw [hW3]; simp [setCell_sz]
            have OA3 := Lib.hid (show OTA 61 39 85 3 z1.val.heap.size W3 (.slice q0 t.base.length d0) (.slice p7 (bs.length + 1) c7) (.slice p9 (t.pr.length + 1) c9) t.base (bs ++ [⟨b, .slice p8 bl.length c8, bl⟩]) (t.pr ++ [findB t.bs b.bf]) from by rw [hW3]; exact OA9.out.set _ _ hX.1 hN7 hN9 hXb)
            have n0x : W3.cell? ⟨w.heap.size, 0, none⟩ = some (.slice p0 t.base.length c0) := by rw [hW3]; go_simp
            have n1x : W3.cell? ⟨w.heap.size, 1, none⟩ = some (.slice p1 t.bs.length c1) := by rw [hW3]; go_simp
            have n2x : W3.cell? ⟨w.heap.size, 2, none⟩ = some (.slice p2 t.pr.length c2) := by rw [hW3]; go_simp
            have m4x : W3.cell? ⟨z2.val.heap.size, 0, none⟩ = some (.slice q0 t.base.length d0) := by rw [hW3]; go_simp
            have m5x : W3.cell? ⟨z2.val.heap.size, 1, none⟩ = some (.slice p7 (bs.length + 1) c7) := by rw [hW3]; go_simp
            have m6x : W3.cell? ⟨z2.val.heap.size, 2, none⟩ = some (.slice p9 (t.pr.length + 1) c9) := by rw [hW3]; go_simp
            have mR0x : W3.cell? ⟨w.heap.size + 1 + 1, 0, none⟩ = some (.slice none 0 0) := by rw [hW3]; go_simp
            have mR1x : W3.cell? ⟨w.heap.size + 1 + 1, 1, none⟩ = some (.slice none 0 0) := by rw [hW3]; go_simp
            have mR2x : W3.cell? ⟨w.heap.size + 1 + 1, 2, none⟩ = some (.slice none 0 0) := by rw [hW3]; go_simp
            have mf0x : W3.frozen? ⟨w.heap.size + 1 + 1, 0, none⟩ = false := by rw [hW3]; go_simp
            have mf1x : W3.frozen? ⟨w.heap.size + 1 + 1, 1, none⟩ = false := by rw [hW3]; go_simp
            have mf2x : W3.frozen? ⟨w.heap.size + 1 + 1, 2, none⟩ = false := by rw [hW3]; go_simp
            clear hW3 OA9 n0 n1 n2 n3 n4 n5 m4 m5 mR0 mR1 mR2 mf0 mf1 mf2
            have gXs : z2.val.heap.size < W3.heap.size := by have := hLtX.lt; omega
            have gRs : w.heap.size + 1 + 1 < W3.heap.size := by omega
            obtain ⟨z12, rfl⟩ := Up.of E3
            have hK0 : LtS w.heap.size z12.val := ⟨by omega⟩
            have hK2 : LtS (w.heap.size + 1 + 1) z12.val := ⟨gRs⟩
            have hKX : LtS z2.val.heap.size z12.val := ⟨gXs⟩
            have kv2 := fun w h => sTreeValid_any ⟨t.base, t.bs ++ [(b, bl)], t.pr ++ [findB t.bs b.bf]⟩ (.slice q0 t.base.length d0) (.slice p7 (bs.length + 1) c7) (.slice p9 (t.pr.length + 1) c9) w h
            have ST2 := Lib.hid (OTA.st' (t := ⟨t.base, t.bs ++ [(b, bl)], t.pr ++ [findB t.bs b.bf]⟩) OA3.out Hbs1.out)
            rcases hok2 : Tree.ok ⟨t.base, t.bs ++ [(b, bl)], t.pr ++ [findB t.bs b.bf]⟩ with _ | _
            · simp only [hok2] at kv2
              clear hok2
              go_wp2_with (go_at_call 11; refine (kv2 _ (ST2.out.up (by repeat (first | (with_reducible exact Ext.refl _) | (with_reducible refine Ext.up ?_ _) | (with_reducible refine Ext.alloc ?_ _) | (with_reducible refine Ext.drew ?_) | (with_reducible refine Ext.setRow ?_ (by first | exact LeS.le | exact LeS.add _ | (simp; done) | (simp; omega)) _) | (with_reducible refine Ext.setCell ?_ (by first | exact LeS.le | exact LeS.add _ | (simp; done) | (simp; omega)) _))))).mono ?_; rintro e w' ⟨rfl, z10, rfl⟩)
              refine (sCopy_any t _ _ _ _ (H.out.up (by repeat (first | (with_reducible exact Ext.refl _) | (with_reducible refine Ext.up ?_ _) | (with_reducible refine Ext.alloc ?_ _) | (with_reducible refine Ext.drew ?_) | (with_reducible refine Ext.setRow ?_ (by first | exact LeS.le | exact LeS.add _ | (simp; done) | (simp; omega)) _) | (with_reducible refine Ext.setCell ?_ (by first | exact LeS.le | exact LeS.add _ | (simp; done) | (simp; omega)) _)))) (by omega) (by omega) (fun x hx => by have := K4.out x hx; omega) (by omega)).mono ?_; rintro e w' ⟨y0, y1, y2, bs', rfl, ⟨z11, rfl⟩, hm', ot'⟩
              obtain ⟨g0, h0, rfl, _, _⟩ := (ot'.obase.sl Ent.enc_length).openc
              obtain ⟨g1, h1, rfl, _, _⟩ := (ot'.obs.1.sl TB.enc_length).openc
              obtain ⟨g2, h2, rfl, _, _⟩ := (ot'.opr.sl encI_length).openc
              have OT' := Lib.hid ot'; have Hm' := Lib.hid hm'; clear ot' hm'
              go_wp2_with fail
              have hz10 := z10.ext.size
              have r0 : z11.val.cell? ⟨w.heap.size + 1 + 1, 0, none⟩ = some (.slice none 0 0) := by go_simp
              have r1 : z11.val.cell? ⟨w.heap.size + 1 + 1, 1, none⟩ = some (.slice none 0 0) := by go_simp
              have r2 : z11.val.cell? ⟨w.heap.size + 1 + 1, 2, none⟩ = some (.slice none 0 0) := by go_simp
              refine bodyPost_ret (v := .tuple #[.agg #[.slice g0 t.base.length h0, .slice g1 bs'.length h1, .slice g2 t.pr.length h2], .bool false]) (by simp [results, Try.results79, go_sem, r0, r1, r2]) rfl ?_
              refine ⟨_, _, _, t, bs', false, rfl, (.of (by repeat (first | (with_reducible exact Ext.refl _) | (with_reducible refine Ext.up ?_ _) | (with_reducible refine Ext.alloc ?_ _) | (with_reducible refine Ext.drew ?_) | (with_reducible refine Ext.setRow ?_ (by first | exact LeS.le | exact LeS.add _ | (simp; done) | (simp; omega)) _) | (with_reducible refine Ext.setCell ?_ (by first | exact LeS.le | exact LeS.add _ | (simp; done) | (simp; omega)) _)))), Hok.out, Nat.le_refl _, Hm'.out, ?_⟩
              exact (((OT'.out.setOld _ _ (by show w.heap.size + 1 + 1 < _; omega)).setOld _ _ (by show w.heap.size + 1 + 1 < _; omega)).setOld _ _ (by show w.heap.size + 1 + 1 < _; omega)).lo (by omega)
            · simp only [hok2] at kv2
              go_wp2_with (go_at_call 11; refine (kv2 _ (ST2.out.up (by repeat (first | (with_reducible exact Ext.refl _) | (with_reducible refine Ext.up ?_ _) | (with_reducible refine Ext.alloc ?_ _) | (with_reducible refine Ext.drew ?_) | (with_reducible refine Ext.setRow ?_ (by first | exact LeS.le | exact LeS.add _ | (simp; done) | (simp; omega)) _) | (with_reducible refine Ext.setCell ?_ (by first | exact LeS.le | exact LeS.add _ | (simp; done) | (simp; omega)) _))))).mono ?_; rintro e w' ⟨rfl, z10, rfl⟩)
              have r0 : z10.val.cell? ⟨w.heap.size + 1 + 1, 0, none⟩ = some (.slice none 0 0) := by go_simp
              have r1 : z10.val.cell? ⟨w.heap.size + 1 + 1, 1, none⟩ = some (.slice none 0 0) := by go_simp
              have r2 : z10.val.cell? ⟨w.heap.size + 1 + 1, 2, none⟩ = some (.slice none 0 0) := by go_simp
              refine bodyPost_ret (v := .tuple #[.agg #[.slice q0 t.base.length d0, .slice p7 (bs.length + 1) c7, .slice p9 (t.pr.length + 1) c9], .bool true]) (by simp [results, Try.results79, go_sem, r0, r1, r2]) rfl ?_
              refine ⟨_, _, _, ⟨t.base, t.bs ++ [(b, bl)], t.pr ++ [findB t.bs b.bf]⟩, bs ++ [⟨b, .slice p8 bl.length c8, bl⟩], true, rfl, (.of (by repeat (first | (with_reducible exact Ext.refl _) | (with_reducible refine Ext.up ?_ _) | (with_reducible refine Ext.alloc ?_ _) | (with_reducible refine Ext.drew ?_) | (with_reducible refine Ext.setRow ?_ (by first | exact LeS.le | exact LeS.add _ | (simp; done) | (simp; omega)) _) | (with_reducible refine Ext.setCell ?_ (by first | exact LeS.le | exact LeS.add _ | (simp; done) | (simp; omega)) _)))), hok2, by simp, Hbs1.out, ?_⟩
              exact (((((OA3.out.up (by repeat (first | (with_reducible exact Ext.refl _) | (with_reducible refine Ext.up ?_ _) | (with_reducible refine Ext.alloc ?_ _) | (with_reducible refine Ext.drew ?_) | (with_reducible refine Ext.setRow ?_ (by first | exact LeS.le | exact LeS.add _ | (simp; done) | (simp; omega)) _) | (with_reducible refine Ext.setCell ?_ (by first | exact LeS.le | exact LeS.add _ | (simp; done) | (simp; omega)) _)))).setOld _ _ (by show w.heap.size + 1 + 1 < _; omega)).setOld _ _ (by show w.heap.size + 1 + 1 < _; omega)).setOld _ _ (by show w.heap.size + 1 + 1 < _; omega))).lo (by omega)
          exact AllReadyH.nil
        exact AllReadyH.nil
      exact AllReadyH.nil
    refine AllReadyH.cons (opAt rfl) (fun K hK => ?_) ?_
    · go_simp
      refine hK.out _ _ ?_ (fun hHeld1 => ?_)
      · (try dsimp only)
        ((first | exact ⟨n0, n1, n2, n3, z9.ext⟩ | exact ⟨n0, n1, n2, n3, z9.ext.setCell (by omega) _⟩ | (refine ⟨by go_simp, by go_simp, by go_simp, by go_simp, ?_⟩; first | exact E1 | exact z9.ext.setCell (by show w.heap.size ≤ z2.val.heap.size; omega) _ | exact E1.trans (by repeat (first | (with_reducible exact Ext.refl _) | (with_reducible refine Ext.up ?_ _) | (with_reducible refine Ext.alloc ?_ _) | (with_reducible refine Ext.drew ?_) | (with_reducible refine Ext.setRow ?_ (by first | exact LeS.le | exact LeS.add _ | (simp; done) | (simp; omega)) _) | (with_reducible refine Ext.setCell ?_ (by first | exact LeS.le | exact LeS.add _ | (simp; done) | (simp; omega)) _))))))
      clear hK K hHeld
      have hHeld := hHeld1; clear hHeld1
      try simp only [Act.put, List.setIfInBounds_toArray, List.set_cons_zero, List.set_cons_succ]
      refine wpAnyH_ready (rs := [1]) (by kernel_rfl) (by simp) ?_
      refine AllReadyH.cons (opAt rfl) (fun K hK => ?_) ?_
      · go_simp
        refine hK.out _ _ ?_ (fun hHeld1 => ?_)
        · (try dsimp only)
          ((first | exact ⟨n0, n1, n2, n3, z9.ext⟩ | exact ⟨n0, n1, n2, n3, z9.ext.setCell (by omega) _⟩ | (refine ⟨by go_simp, by go_simp, by go_simp, by go_simp, ?_⟩; first | exact E1 | exact z9.ext.setCell (by show w.heap.size ≤ z2.val.heap.size; omega) _ | exact E1.trans (by repeat (first | (with_reducible exact Ext.refl _) | (with_reducible refine Ext.up ?_ _) | (with_reducible refine Ext.alloc ?_ _) | (with_reducible refine Ext.drew ?_) | (with_reducible refine Ext.setRow ?_ (by first | exact LeS.le | exact LeS.add _ | (simp; done) | (simp; omega)) _) | (with_reducible refine Ext.setCell ?_ (by first | exact LeS.le | exact LeS.add _ | (simp; done) | (simp; omega)) _))))))
        clear hK K hHeld
        have hHeld := hHeld1; clear hHeld1
        try simp only [Act.put, List.setIfInBounds_toArray, List.set_cons_zero, List.set_cons_succ]
        refine wpAnyH_ready (rs := [7]) (by kernel_rfl) (by simp) ?_
        refine AllReadyH.cons (opAt rfl) (fun K hK => ?_) ?_
        · (refine step_pushG fI (by rfl) (.tmp 25) (.tmp 30) (by rfl) encI encI_length w (lo := z1.val.heap.size) [findB t.bs b.bf] t.pr (by rfl) (by rfl) (heap_alloc_new _ _) ((OA1.out.opr).up (by repeat (first | (with_reducible exact Ext.refl _) | (with_reducible refine Ext.up ?_ _) | (with_reducible refine Ext.alloc ?_ _) | (with_reducible refine Ext.drew ?_) | (with_reducible refine Ext.setRow ?_ (by first | exact LeS.le | exact LeS.add _ | (simp; done) | (simp; omega)) _) | (with_reducible refine Ext.setCell ?_ (by first | exact LeS.le | exact LeS.add _ | (simp; done) | (simp; omega)) _)))) (E1.trans (by repeat (first | (with_reducible exact Ext.refl _) | (with_reducible refine Ext.up ?_ _) | (with_reducible refine Ext.alloc ?_ _) | (with_reducible refine Ext.drew ?_) | (with_reducible refine Ext.setRow ?_ (by first | exact LeS.le | exact LeS.add _ | (simp; done) | (simp; omega)) _) | (with_reducible refine Ext.setCell ?_ (by first | exact LeS.le | exact LeS.add _ | (simp; done) | (simp; omega)) _)))) (by omega) (by first | omega | (have := z8'.ext.size; simp at this ⊢; omega)) (by rfl) (by decide) (by rfl) (oneIs _) (by simp; omega) (by simp; omega) ?_; intro v9 z9 o9 g9 b9; obtain ⟨p9, c9, hv9, _, _⟩ := (o9.sl encI_length).openc; rw [List.length_append] at hv9; rw [show ([findB t.bs b.bf] : List Int).length = 1 from rfl] at hv9; subst hv9; have hs9 : W1.heap.size ≤ z9.val.heap.size := (by have h5 := z8'.ext.size; have h6 := g9.size; simp at h5 h6; omega); have n0 : z9.val.cell? ⟨w.heap.size, 0, none⟩ = some (.slice p0 t.base.length c0) := (cell_grown g9 (by have h5 := z8'.ext.size; simp at h5 ⊢; omega) (hN2 _ (.inl (by omega)))).trans (by go_simp); have n1 : z9.val.cell? ⟨w.heap.size, 1, none⟩ = some (.slice p1 t.bs.length c1) := (cell_grown g9 (by have h5 := z8'.ext.size; simp at h5 ⊢; omega) (hN2 _ (.inl (by omega)))).trans (by go_simp); have n2 : z9.val.cell? ⟨w.heap.size, 2, none⟩ = some (.slice p2 t.pr.length c2) := (cell_grown g9 (by have h5 := z8'.ext.size; simp at h5 ⊢; omega) (hN2 _ (.inl (by omega)))).trans (by go_simp); have n3 : z9.val.cell? ⟨w.heap.size + 1, 0, none⟩ = some (.int .i64 b.bf) := (cell_grown g9 (by have h5 := z8'.ext.size; simp at h5 ⊢; omega) (hN2 _ (.inl (by omega)))).trans (by go_simp); have n4 : z9.val.cell? ⟨z2.val.heap.size, 2, none⟩ = some (.slice q2 t.pr.length d2) := (cell_grown g9 (by have h5 := z8'.ext.size; simp at h5 ⊢; omega) (hN2 _ (.inr (Nat.le_refl _)))).trans (by go_simp); have n5 : z9.val.frozen? ⟨z2.val.heap.size, 2, none⟩ = false := (frozen_grown g9 (by have h5 := z8'.ext.size; simp at h5 ⊢; omega) (hN2 _ (.inr (Nat.le_refl _)))).trans (by go_simp); have m4 : z9.val.cell? ⟨z2.val.heap.size, 0, none⟩ = some (.slice q0 t.base.length d0) := (cell_grown g9 (by have h5 := z8'.ext.size; simp at h5 ⊢; omega) (hN2 _ (.inr (Nat.le_refl _)))).trans (by go_simp); have m5 : z9.val.cell? ⟨z2.val.heap.size, 1, none⟩ = some (.slice p7 (bs.length + 1) c7) := (cell_grown g9 (by have h5 := z8'.ext.size; simp at h5 ⊢; omega) (hN2 _ (.inr (Nat.le_refl _)))).trans (by go_simp); have mR0 : z9.val.cell? ⟨w.heap.size + 1 + 1, 0, none⟩ = some (.slice none 0 0) := (cell_grown g9 (by have h5 := z8'.ext.size; simp at h5 ⊢; omega) (hN2 _ (.inl (by omega)))).trans (by go_simp); have mR1 : z9.val.cell? ⟨w.heap.size + 1 + 1, 1, none⟩ = some (.slice none 0 0) := (cell_grown g9 (by have h5 := z8'.ext.size; simp at h5 ⊢; omega) (hN2 _ (.inl (by omega)))).trans (by go_simp); have mR2 : z9.val.cell? ⟨w.heap.size + 1 + 1, 2, none⟩ = some (.slice none 0 0) := (cell_grown g9 (by have h5 := z8'.ext.size; simp at h5 ⊢; omega) (hN2 _ (.inl (by omega)))).trans (by go_simp); have mf0 : z9.val.frozen? ⟨w.heap.size + 1 + 1, 0, none⟩ = false := (frozen_grown g9 (by have h5 := z8'.ext.size; simp at h5 ⊢; omega) (hN2 _ (.inl (by omega)))).trans (by go_simp); have mf1 : z9.val.frozen? ⟨w.heap.size + 1 + 1, 1, none⟩ = false := (frozen_grown g9 (by have h5 := z8'.ext.size; simp at h5 ⊢; omega) (hN2 _ (.inl (by omega)))).trans (by go_simp); have mf2 : z9.val.frozen? ⟨w.heap.size + 1 + 1, 2, none⟩ = false := (frozen_grown g9 (by have h5 := z8'.ext.size; simp at h5 ⊢; omega) (hN2 _ (.inl (by omega)))).trans (by go_simp); have OA9 := Lib.hid (OTA.snocI (OA1.out.up (by repeat (first | (with_reducible exact Ext.refl _) | (with_reducible refine Ext.up ?_ _) | (with_reducible refine Ext.alloc ?_ _) | (with_reducible refine Ext.drew ?_) | (with_reducible refine Ext.setRow ?_ (by first | exact LeS.le | exact LeS.add _ | (simp; done) | (simp; omega)) _) | (with_reducible refine Ext.setCell ?_ (by first | exact LeS.le | exact LeS.add _ | (simp; done) | (simp; omega)) _)))) g9 b9 o9); have hN9 : (Value.slice p9 (t.pr.length + 1) c9).ownBlock ≠ some z2.val.heap.size := (by rcases b9 with e9 | e9 <;> rw [e9]; (exact hN2 _ (.inr (Nat.le_refl _))); (have h5 := z8'.ext.size; simp at h5 ⊢; omega)); have hE9 := Lib.hid (show w.heap.size ≤ z9.val.heap.size from z9.ext.size); clear o9 g9 b9)
          refine hK.out _ _ ?_ (fun hHeld1 => ?_)
          · (try dsimp only)
            ((first | exact ⟨n0, n1, n2, n3, z9.ext⟩ | exact ⟨n0, n1, n2, n3, z9.ext.setCell (by omega) _⟩ | (refine ⟨by go_simp, by go_simp, by go_simp, by go_simp, ?_⟩; first | exact E1 | exact z9.ext.setCell (by show w.heap.size ≤ z2.val.heap.size; omega) _ | exact E1.trans (by repeat (first | (with_reducible exact Ext.refl _) | (with_reducible refine Ext.up ?_ _) | (with_reducible refine Ext.alloc ?_ _) | (with_reducible refine Ext.drew ?_) | (with_reducible refine Ext.setRow ?_ (by first | exact LeS.le | exact LeS.add _ | (simp; done) | (simp; omega)) _) | (with_reducible refine Ext.setCell ?_ (by first | exact LeS.le | exact LeS.add _ | (simp; done) | (simp; omega)) _))))))
          clear hK K hHeld
          have hHeld := hHeld1; clear hHeld1
          try simp only [Act.put, List.setIfInBounds_toArray, List.set_cons_zero, List.set_cons_succ]
          refine wpAnyH_take (i := 8) (v := ?_) (opAt rfl) (by kernel_rfl) (by kernel_rfl) (by kernel_rfl) (fun _ _ _ h => h) (Or.inl ⟨by rfl, ?_⟩) (by assumption) ?_
          rotate_left
          · (intro w hSw; (try dsimp only at hSw); go_simp) <;> with_reducible rfl
          try simp only [Act.put, List.setIfInBounds_toArray, List.set_cons_zero, List.set_cons_succ]
          refine wpAnyH_ready (rs := [9]) (by kernel_rfl) (by simp) ?_
          refine AllReadyH.cons (opAt rfl) (fun K hK => ?_) ?_
          · go_simp
            refine hK.out _ _ ?_ (fun hHeld1 => ?_)
            · (try dsimp only)
              ((first | exact ⟨n0, n1, n2, n3, z9.ext⟩ | exact ⟨n0, n1, n2, n3, z9.ext.setCell (by omega) _⟩ | (refine ⟨by go_simp, by go_simp, by go_simp, by go_simp, ?_⟩; first | exact E1 | exact z9.ext.setCell (by show w.heap.size ≤ z2.val.heap.size; omega) _ | exact E1.trans (by repeat (first | (with_reducible exact Ext.refl _) | (with_reducible refine Ext.up ?_ _) | (with_reducible refine Ext.alloc ?_ _) | (with_reducible refine Ext.drew ?_) | (with_reducible refine Ext.setRow ?_ (by first | exact LeS.le | exact LeS.add _ | (simp; done) | (simp; omega)) _) | (with_reducible refine Ext.setCell ?_ (by first | exact LeS.le | exact LeS.add _ | (simp; done) | (simp; omega)) _))))))
            clear hK K hHeld
            have hHeld := hHeld1; clear hHeld1
            try simp only [Act.put, List.setIfInBounds_toArray, List.set_cons_zero, List.set_cons_succ]
            refine wpAnyH_done (by kernel_rfl) ?_ _
            have Hbs1 := Lib.hid (show (bs ++ [(⟨b, .slice p8 bl.length c8, bl⟩ : TB)]).map TB.core = t.bs ++ [(b, bl)] by rw [List.map_append, Hm.out]; rfl)
            generalize hW3' : World.setCell z9.val ⟨z2.val.heap.size, 2, none⟩ (.slice p9 (t.pr.length + 1) c9) = W3
            have hW3 := hW3'.symm; clear hW3'
            have E3 : Ext w W3 := by rw [hW3]; exact z9.ext.setCell (by show w.heap.size ≤ z2.val.heap.size; omega) _
            have hs3 : W3.heap.size = z9.val.heap.size := by rw [hW3]; simp [setCell_sz]
            have OA3 := Lib.hid (show OTA 61 39 85 3 z1.val.heap.size W3 (.slice q0 t.base.length d0) (.slice p7 (bs.length + 1) c7) (.slice p9 (t.pr.length + 1) c9) t.base (bs ++ [⟨b, .slice p8 bl.length c8, bl⟩]) (t.pr ++ [findB t.bs b.bf]) from by rw [hW3]; exact OA9.out.set _ _ hX.1 hN7 hN9 hXb)
            have n0x : W3.cell? ⟨w.heap.size, 0, none⟩ = some (.slice p0 t.base.length c0) := by rw [hW3]; go_simp
            have n1x : W3.cell? ⟨w.heap.size, 1, none⟩ = some (.slice p1 t.bs.length c1) := by rw [hW3]; go_simp
            have n2x : W3.cell? ⟨w.heap.size, 2, none⟩ = some (.slice p2 t.pr.length c2) := by rw [hW3]; go_simp
            have m4x : W3.cell? ⟨z2.val.heap.size, 0, none⟩ = some (.slice q0 t.base.length d0) := by rw [hW3]; go_simp
            have m5x : W3.cell? ⟨z2.val.heap.size, 1, none⟩ = some (.slice p7 (bs.length + 1) c7) := by rw [hW3]; go_simp
            have m6x : W3.cell? ⟨z2.val.heap.size, 2, none⟩ = some (.slice p9 (t.pr.length + 1) c9) := by rw [hW3]; go_simp
            have mR0x : W3.cell? ⟨w.heap.size + 1 + 1, 0, none⟩ = some (.slice none 0 0) := by rw [hW3]; go_simp
            have mR1x : W3.cell? ⟨w.heap.size + 1 + 1, 1, none⟩ = some (.slice none 0 0) := by rw [hW3]; go_simp
            have mR2x : W3.cell? ⟨w.heap.size + 1 + 1, 2, none⟩ = some (.slice none 0 0) := by rw [hW3]; go_simp
            have mf0x : W3.frozen? ⟨w.heap.size + 1 + 1, 0, none⟩ = false := by rw [hW3]; go_simp
            have mf1x : W3.frozen? ⟨w.heap.size + 1 + 1, 1, none⟩ = false := by rw [hW3]; go_simp
            have mf2x : W3.frozen? ⟨w.heap.size + 1 + 1, 2, none⟩ = false := by rw [hW3]; go_simp
            clear hW3 OA9 n0 n1 n2 n3 n4 n5 m4 m5 mR0 mR1 mR2 mf0 mf1 mf2
            have gXs : z2.val.heap.size < W3.heap.size := by have := hLtX.lt; omega
            have gRs : w.heap.size + 1 + 1 < W3.heap.size := by omega
            obtain ⟨z12, rfl⟩ := Up.of E3
            have hK0 : LtS w.heap.size z12.val := ⟨by omega⟩
            have hK2 : LtS (w.heap.size + 1 + 1) z12.val := ⟨gRs⟩
            have hKX : LtS z2.val.heap.size z12.val := ⟨gXs⟩
            have kv2 := fun w h => sTreeValid_any ⟨t.base, t.bs ++ [(b, bl)], t.pr ++ [findB t.bs b.bf]⟩ (.slice q0 t.base.length d0) (.slice p7 (bs.length + 1) c7) (.slice p9 (t.pr.length + 1) c9) w h
            have ST2 := Lib.hid (OTA.st' (t := ⟨t.base, t.bs ++ [(b, bl)], t.pr ++ [findB t.bs b.bf]⟩) OA3.out Hbs1.out)
            rcases hok2 : Tree.ok ⟨t.base, t.bs ++ [(b, bl)], t.pr ++ [findB t.bs b.bf]⟩ with _ | _
            · simp only [hok2] at kv2
              clear hok2
              go_wp2_with (go_at_call 11; refine (kv2 _ (ST2.out.up (by repeat (first | (with_reducible exact Ext.refl _) | (with_reducible refine Ext.up ?_ _) | (with_reducible refine Ext.alloc ?_ _) | (with_reducible refine Ext.drew ?_) | (with_reducible refine Ext.setRow ?_ (by first | exact LeS.le | exact LeS.add _ | (simp; done) | (simp; omega)) _) | (with_reducible refine Ext.setCell ?_ (by first | exact LeS.le | exact LeS.add _ | (simp; done) | (simp; omega)) _))))).mono ?_; rintro e w' ⟨rfl, z10, rfl⟩)
              refine (sCopy_any t _ _ _ _ (H.out.up (by repeat (first | (with_reducible exact Ext.refl _) | (with_reducible refine Ext.up ?_ _) | (with_reducible refine Ext.alloc ?_ _) | (with_reducible refine Ext.drew ?_) | (with_reducible refine Ext.setRow ?_ (by first | exact LeS.le | exact LeS.add _ | (simp; done) | (simp; omega)) _) | (with_reducible refine Ext.setCell ?_ (by first | exact LeS.le | exact LeS.add _ | (simp; done) | (simp; omega)) _)))) (by omega) (by omega) (fun x hx => by have := K4.out x hx; omega) (by omega)).mono ?_; rintro e w' ⟨y0, y1, y2, bs', rfl, ⟨z11, rfl⟩, hm', ot'⟩
              obtain ⟨g0, h0, rfl, _, _⟩ := (ot'.obase.sl Ent.enc_length).openc
              obtain ⟨g1, h1, rfl, _, _⟩ := (ot'.obs.1.sl TB.enc_length).openc
              obtain ⟨g2, h2, rfl, _, _⟩ := (ot'.opr.sl encI_length).openc
              have OT' := Lib.hid ot'; have Hm' := Lib.hid hm'; clear ot' hm'
              go_wp2_with fail
              have hz10 := z10.ext.size
              have r0 : z11.val.cell? ⟨w.heap.size + 1 + 1, 0, none⟩ = some (.slice none 0 0) := by go_simp
              have r1 : z11.val.cell? ⟨w.heap.size + 1 + 1, 1, none⟩ = some (.slice none 0 0) := by go_simp
              have r2 : z11.val.cell? ⟨w.heap.size + 1 + 1, 2, none⟩ = some (.slice none 0 0) := by go_simp
              refine bodyPost_ret (v := .tuple #[.agg #[.slice g0 t.base.length h0, .slice g1 bs'.length h1, .slice g2 t.pr.length h2], .bool false]) (by simp [results, Try.results79, go_sem, r0, r1, r2]) rfl ?_
              refine ⟨_, _, _, t, bs', false, rfl, (.of (by repeat (first | (with_reducible exact Ext.refl _) | (with_reducible refine Ext.up ?_ _) | (with_reducible refine Ext.alloc ?_ _) | (with_reducible refine Ext.drew ?_) | (with_reducible refine Ext.setRow ?_ (by first | exact LeS.le | exact LeS.add _ | (simp; done) | (simp; omega)) _) | (with_reducible refine Ext.setCell ?_ (by first | exact LeS.le | exact LeS.add _ | (simp; done) | (simp; omega)) _)))), Hok.out, Nat.le_refl _, Hm'.out, ?_⟩
              exact (((OT'.out.setOld _ _ (by show w.heap.size + 1 + 1 < _; omega)).setOld _ _ (by show w.heap.size + 1 + 1 < _; omega)).setOld _ _ (by show w.heap.size + 1 + 1 < _; omega)).lo (by omega)
            · simp only [hok2] at kv2
              go_wp2_with (go_at_call 11; refine (kv2 _ (ST2.out.up (by repeat (first | (with_reducible exact Ext.refl _) | (with_reducible refine Ext.up ?_ _) | (with_reducible refine Ext.alloc ?_ _) | (with_reducible refine Ext.drew ?_) | (with_reducible refine Ext.setRow ?_ (by first | exact LeS.le | exact LeS.add _ | (simp; done) | (simp; omega)) _) | (with_reducible refine Ext.setCell ?_ (by first | exact LeS.le | exact LeS.add _ | (simp; done) | (simp; omega)) _))))).mono ?_; rintro e w' ⟨rfl, z10, rfl⟩)
              have r0 : z10.val.cell? ⟨w.heap.size + 1 + 1, 0, none⟩ = some (.slice none 0 0) := by go_simp
              have r1 : z10.val.cell? ⟨w.heap.size + 1 + 1, 1, none⟩ = some (.slice none 0 0) := by go_simp
              have r2 : z10.val.cell? ⟨w.heap.size + 1 + 1, 2, none⟩ = some (.slice none 0 0) := by go_simp
              refine bodyPost_ret (v := .tuple #[.agg #[.slice q0 t.base.length d0, .slice p7 (bs.length + 1) c7, .slice p9 (t.pr.length + 1) c9], .bool true]) (by simp [results, Try.results79, go_sem, r0, r1, r2]) rfl ?_
              refine ⟨_, _, _, ⟨t.base, t.bs ++ [(b, bl)], t.pr ++ [findB t.bs b.bf]⟩, bs ++ [⟨b, .slice p8 bl.length c8, bl⟩], true, rfl, (.of (by repeat (first | (with_reducible exact Ext.refl _) | (with_reducible refine Ext.up ?_ _) | (with_reducible refine Ext.alloc ?_ _) | (with_reducible refine Ext.drew ?_) | (with_reducible refine Ext.setRow ?_ (by first | exact LeS.le | exact LeS.add _ | (simp; done) | (simp; omega)) _) | (with_reducible refine Ext.setCell ?_ (by first | exact LeS.le | exact LeS.add _ | (simp; done) | (simp; omega)) _)))), hok2, by simp, Hbs1.out, ?_⟩
              exact (((((OA3.out.up (by repeat (first | (with_reducible exact Ext.refl _) | (with_reducible refine Ext.up ?_ _) | (with_reducible refine Ext.alloc ?_ _) | (with_reducible refine Ext.drew ?_) | (with_reducible refine Ext.setRow ?_ (by first | exact LeS.le | exact LeS.add _ | (simp; done) | (simp; omega)) _) | (with_reducible refine Ext.setCell ?_ (by first | exact LeS.le | exact LeS.add _ | (simp; done) | (simp; omega)) _)))).setOld _ _ (by show w.heap.size + 1 + 1 < _; omega)).setOld _ _ (by show w.heap.size + 1 + 1 < _; omega)).setOld _ _ (by show w.heap.size + 1 + 1 < _; omega))).lo (by omega)
          exact AllReadyH.nil
        exact AllReadyH.nil
      exact AllReadyH.nil
    exact AllReadyH.nil
  exact AllReadyH.nil
end Go.Proofs.Yteiemjebdhmnaaa
