/- Walks: values ahead of blocks, right blocks (printed by wip/mkrts.py). -/
import Derived.Test.YteiemjebdhmnaaaGSoTop21
import Derived.Test.YteiemjebdhmnaaaGSoTop24
set_option linter.unusedSimpArgs false
set_option linter.unusedVariables false
namespace Go.Proofs.Yteiemjebdhmnaaa
open Go Go.RowKit Go.Proofs

def prAt (t : Tree) (n : Nat) : Int := t.pr.getD n 0
/-- The store ahead of a block. -/
def frontS (t : Tree) (n : Nat) : List Ent := if n = 0 then t.base else storeR t (prAt t n)
def frontV (t : Tree) (n : Nat) : List Int := if n = 0 then valsOf t.base else aftV t (prAt t n)
def rightAt (t : Tree) (out : List Bool) (n : Nat) : Bool := match t.bs[n]? with
  | none => false
  | some y => blkRight y.1 y.2 (frontS t n) && (decide (n = 0) || out.getD (prAt t n).toNat false)
def rightsTo (t : Tree) : Nat → List Bool
  | 0 => []
  | k + 1 => rightsTo t k ++ [rightAt t (rightsTo t k) k]
def rightsR (t : Tree) : List Bool := if t.ok = true then rightsTo t t.bs.length else []
theorem oneB (x : Bool) : ∀ u ∈ encB x, u.oneCell' = true := by simp [encB, Value.oneCell']
theorem rightsTo_len (t : Tree) : ∀ k, (rightsTo t k).length = k
  | 0 => rfl
  | k + 1 => by rw [rightsTo, List.length_append, rightsTo_len t k]; rfl
theorem rightsR_le (t : Tree) : (rightsR t).length ≤ t.bs.length := by unfold rightsR; split; rw [rightsTo_len]; exact Nat.le_refl _; simp
theorem rightAt_eq {t : Tree} {out : List Bool} {n : Nat} {y : BL} (h : t.bs[n]? = some y) : rightAt t out n = (blkRight y.1 y.2 (frontS t n) && (decide (n = 0) || out.getD (prAt t n).toNat false)) := by unfold rightAt; rw [h]
theorem frontV_len (t : Tree) (n : Nat) : (frontV t n).length = 32 := by unfold frontV; split; exact valsOf_length _; exact aftL_len _ _
/-- The one before a block that is not the first. -/
theorem link_at {t : Tree} (h : t.ok = true) {n : Nat} (h0 : n ≠ 0) (hn : n < t.bs.length) : ∃ m : Nat, t.pr[n]? = some (m : Int) ∧ prAt t n = (m : Int) ∧ m < n ∧ hasN t (m : Int) = true := by
  obtain ⟨x, hx⟩ := getElem?_some_of_lt hn
  obtain ⟨m, y, h1, h2, h3, _⟩ := Tree.link h hx (by omega)
  refine ⟨m, h1, by unfold prAt; simp [List.getD, h1], h2, hasN_iff.2 ⟨by omega, by omega⟩⟩
theorem frontS_V {t : Tree} (h : t.ok = true) {n : Nat} (hn : n < t.bs.length) : storeOf (frontV t n) = frontS t n := by
  unfold frontV frontS
  by_cases h0 : n = 0
  · rw [if_pos h0, if_pos h0]; exact storeOf_valsOf (base_ok h)
  · rw [if_neg h0, if_neg h0]
    obtain ⟨m, _, hm, _, hN⟩ := link_at h h0 hn
    rw [hm, storeR_yes h hN]
set_option maxRecDepth 100000 in
set_option maxHeartbeats 1000000 in
theorem ahead_any (t : Tree) (v0 v1 v2 : Value) (n : Nat) (w : World) (h : ST w v0 v1 v2 t) (ho : t.ok = true) (hn : n < t.bs.length) :
    Calls Try.prog 48 #[.agg #[v0, v1, v2], .int .i64 n] w fun e w' => e = .returned (.agg (vA (frontV t n))) ∧ Up w w' := by
  obtain ⟨p0, c0, rfl, _, _⟩ := h.base.openc
  obtain ⟨p1, c1, rfl, _, _⟩ := h.bs.openc
  obtain ⟨p2, c2, rfl, hlp, hcp⟩ := h.pr.open
  have HB := Lib.hid h.base; have H := Lib.hid h
  have hbok := Lib.hid (base_ok ho)
  by_cases h0 : n = 0
  · subst h0
    have hf : frontV t 0 = valsOf t.base := rfl
    rw [hf]
    have hvl := valsOf_length t.base
    clear h hcp ho hf
    go_enter Try.func48, Try.ntmps48
    go_wp2_with fail
    (with_reducible refine (valuesOf_any 1 t.base (.slice p0 t.base.length c0) _ (HB.out.up (by repeat (first | (with_reducible exact Ext.refl _) | (with_reducible refine Ext.up ?_ _) | (with_reducible refine Ext.alloc ?_ _) | (with_reducible refine Ext.drew ?_) | (with_reducible refine Ext.setRow ?_ (by first | exact LeS.le | exact LeS.add _ | (simp; done) | (simp; omega)) _) | (with_reducible refine Ext.setCell ?_ (by first | exact LeS.le | exact LeS.add _ | (simp; done) | (simp; omega)) _)))) hbok.out).mono ?_); rintro e w' ⟨rfl, z3, rfl⟩
    have r1 : Row 57 z3.val (w.heap.size + 1) zeros := (Row.of_eq (heap_alloc2_new _ _ _) vA_zeros.symm : Row 57 _ (w.heap.size + 1) zeros).up z3.ext
    have RZ := Lib.hid r1
    have EZ := Lib.hid (show Ext w z3.val from (by repeat (first | (with_reducible exact Ext.refl _) | (with_reducible refine Ext.up ?_ _) | (with_reducible refine Ext.alloc ?_ _) | (with_reducible refine Ext.drew ?_) | (with_reducible refine Ext.setRow ?_ (by first | exact LeS.le | exact LeS.add _ | (simp; done) | (simp; omega)) _) | (with_reducible refine Ext.setCell ?_ (by first | exact LeS.le | exact LeS.add _ | (simp; done) | (simp; omega)) _))))
    clear r1
    go_wp2_with (refine wpList_store_row rfl _ _ _ rfl _ _ rfl rfl _ _ RZ.out.eq (by rw [vA_size, hvl]; exact Try.sVals) (by rw [vA_size, vA_size, hvl, zeros_length]) (vA_one _) ?_)
    refine bodyPost_ret (results_cell_row (p := 4) (by kernel_rfl) _ _ (w.heap.size + 1) _ (vA (valsOf t.base)) (0, 0) _ rfl (RZ.out.setRow _).eq Try.underlying57 rfl (by rw [vA_size, hvl]; exact Try.sVals)) rfl ⟨rfl, .of (EZ.out.setRow (by omega) _)⟩
  · obtain ⟨m, hm, hpa, hmn, hN⟩ := link_at ho h0 hn
    obtain ⟨b, off, rfl, hb, hcc⟩ := hcp n _ hm
    have e0 : w.cell? ⟨b, off + n, none⟩ = some (.int .i64 m) := by have := hcc 0 _ rfl; simpa using this
    have hf : frontV t n = aftV t (m : Int) := by unfold frontV; rw [if_neg h0, hpa]
    rw [hf]
    have ka := fun w h => after_any t (.slice p0 t.base.length c0) (.slice p1 t.bs.length c1) (.slice (some ⟨b, off, none⟩) t.pr.length c2) (m : Int) w h ho hN
    have hal : (aftV t (m : Int)).length = 32 := aftL_len _ _
    have hpl := (Tree.lens ho).1
    have n0 : (0 : Int) ≤ (n : Int) := by omega
    have n1 : (n : Int) < t.pr.length := by omega
    have n2 : ((n : Int) == 0) = false := by rw [beq_eq_false_iff_ne]; omega
    generalize aftV t (m : Int) = AV at *
    clear h hcp ho hf hcc hm hpa hN h0 hpl
    go_enter Try.func48, Try.ntmps48
    go_wp2_with fail
    refine wp_named ?_; intro W2 hW2
    have hE : Ext w W2 := by rw [hW2]; exact (by repeat (first | (with_reducible exact Ext.refl _) | (with_reducible refine Ext.up ?_ _) | (with_reducible refine Ext.alloc ?_ _) | (with_reducible refine Ext.drew ?_) | (with_reducible refine Ext.setRow ?_ (by first | exact LeS.le | exact LeS.add _ | (simp; done) | (simp; omega)) _) | (with_reducible refine Ext.setCell ?_ (by first | exact LeS.le | exact LeS.add _ | (simp; done) | (simp; omega)) _)))
    have r1 : Row 57 W2 (w.heap.size + 1) zeros := by rw [hW2]; exact Row.of_eq (heap_alloc2_new _ _ _) vA_zeros.symm
    have t0 : W2.cell? ⟨w.heap.size, 0, none⟩ = some (.slice p0 t.base.length c0) := by rw [hW2]; go_simp
    have t1 : W2.cell? ⟨w.heap.size, 1, none⟩ = some (.slice p1 t.bs.length c1) := by rw [hW2]; go_simp
    have t2 : W2.cell? ⟨w.heap.size, 2, none⟩ = some (.slice (some ⟨b, off, none⟩) t.pr.length c2) := by rw [hW2]; go_simp
    have e2 : W2.cell? ⟨b, off + n, none⟩ = some (.int .i64 m) := hE.some e0
    have hL0 : LtS w.heap.size W2 := .of_some t0
    have hL1 : LtS (w.heap.size + 1) W2 := r1.lts
    have hLb : LtS b W2 := .of_some e2
    have hbl := hb.lt
    have hN0 : NeS w.heap.size (w.heap.size + 1) := ⟨by omega⟩
    have hNb : NeS b (w.heap.size + 1) := ⟨by omega⟩
    have R1 := Lib.hid r1; have HE2 := Lib.hid hE
    have HW := Lib.hid (H.out.up hE)
    clear hW2 r1 hE e0
    refine wp_region_held_drew (S := (fun w' => (∀ n i, ∀ [LtS n W2] [NeS n (w.heap.size + 1)], w'.cell? ⟨n, i, none⟩ = World.cell? W2 ⟨n, i, none⟩) ∧ World.grownBy W2 w' (some (w.heap.size + 1)))) (by kernel_rfl) ?_ (fun hHeld => ?_)
    · (try dsimp only)
      refine S_of_gb ?_
      first | (refine GB.setRow' ?_ _; (repeat (first | (with_reducible exact grownBy_refl _ _) | (with_reducible refine GB.setNew ?_ (by first | exact LeS.le | exact LeS.add _ | (simp; done) | (simp; omega)) _ _) | (with_reducible refine GB.alloc ?_ _) | (with_reducible refine GB.drew ?_) | (with_reducible refine GB.upR ?_ _) | (with_reducible refine GB.up ?_ _))); done) | ((repeat (first | (with_reducible exact grownBy_refl _ _) | (with_reducible refine GB.setNew ?_ (by first | exact LeS.le | exact LeS.add _ | (simp; done) | (simp; omega)) _ _) | (with_reducible refine GB.alloc ?_ _) | (with_reducible refine GB.drew ?_) | (with_reducible refine GB.upR ?_ _) | (with_reducible refine GB.up ?_ _))); done)
    refine wpAnyH_take (i := 0) (v := ?_) (opAt rfl) (by kernel_rfl) (by kernel_rfl) (by kernel_rfl) (fun _ _ _ h => h) (Or.inl ⟨by rfl, ?_⟩) (by assumption) ?_
    rotate_left
    · (intro w hSw; (try dsimp only at hSw); go_simp) <;> with_reducible rfl
    try simp only [Act.put, List.setIfInBounds_toArray, List.set_cons_zero, List.set_cons_succ]
    refine wpAnyH_take (i := 1) (v := ?_) (opAt rfl) (by kernel_rfl) (by kernel_rfl) (by kernel_rfl) (fun _ _ _ h => h) (Or.inl ⟨by rfl, ?_⟩) (by assumption) ?_
    rotate_left
    · (intro w hSw; (try dsimp only at hSw); go_simp) <;> with_reducible rfl
    try simp only [Act.put, List.setIfInBounds_toArray, List.set_cons_zero, List.set_cons_succ]
    refine wpAnyH_take (i := 2) (v := ?_) (opAt rfl) (by kernel_rfl) (by kernel_rfl) (by kernel_rfl) (fun _ _ _ h => h) (Or.inl ⟨by rfl, ?_⟩) (by assumption) ?_
    rotate_left
    · (intro w hSw; (try dsimp only at hSw); go_simp) <;> with_reducible rfl
    try simp only [Act.put, List.setIfInBounds_toArray, List.set_cons_zero, List.set_cons_succ]
    refine wpAnyH_take (i := 3) (v := ?_) (opAt rfl) (by kernel_rfl) (by kernel_rfl) (by kernel_rfl) (fun _ _ _ h => h) (Or.inl ⟨by rfl, ?_⟩) (by assumption) ?_
    rotate_left
    · (intro w hSw; (try dsimp only at hSw); go_simp) <;> with_reducible rfl
    try simp only [Act.put, List.setIfInBounds_toArray, List.set_cons_zero, List.set_cons_succ]
    refine wpAnyH_take (i := 4) (v := ?_) (opAt rfl) (by kernel_rfl) (by kernel_rfl) (by kernel_rfl) (fun _ _ _ h => h) (Or.inl ⟨by rfl, ?_⟩) (by assumption) ?_
    rotate_left
    · (intro w hSw; (try dsimp only at hSw); go_simp) <;> with_reducible rfl
    try simp only [Act.put, List.setIfInBounds_toArray, List.set_cons_zero, List.set_cons_succ]
    refine wpAnyH_take (i := 5) (v := ?_) (opAt rfl) (by kernel_rfl) (by kernel_rfl) (by kernel_rfl) (fun _ _ _ h => h) (Or.inl ⟨by rfl, ?_⟩) (by assumption) ?_
    rotate_left
    · (intro w hSw; (try dsimp only at hSw); go_simp) <;> with_reducible rfl
    try simp only [Act.put, List.setIfInBounds_toArray, List.set_cons_zero, List.set_cons_succ]
    refine wpAnyH_ready (rs := [6]) (by kernel_rfl) (by simp) ?_
    refine AllReadyH.cons (opAt rfl) (fun K hK => ?_) ?_
    · go_simp
      go_at_call 31
      (with_reducible refine (ka _ (HW.out.up (by repeat (first | (with_reducible exact Ext.refl _) | (with_reducible refine Ext.up ?_ _) | (with_reducible refine Ext.alloc ?_ _) | (with_reducible refine Ext.drew ?_) | (with_reducible refine Ext.setRow ?_ (by first | exact LeS.le | exact LeS.add _ | (simp; done) | (simp; omega)) _) | (with_reducible refine Ext.setCell ?_ (by first | exact LeS.le | exact LeS.add _ | (simp; done) | (simp; omega)) _))))).mono ?_)
      rintro e w' ⟨rfl, z6, rfl⟩
      try go_wp2_with fail
      refine hK.out _ _ ?_ (fun hHeld1 => ?_)
      · (try dsimp only)
        refine S_of_gb ?_
        first | (refine GB.setRow' ?_ _; (repeat (first | (with_reducible exact grownBy_refl _ _) | (with_reducible refine GB.setNew ?_ (by first | exact LeS.le | exact LeS.add _ | (simp; done) | (simp; omega)) _ _) | (with_reducible refine GB.alloc ?_ _) | (with_reducible refine GB.drew ?_) | (with_reducible refine GB.upR ?_ _) | (with_reducible refine GB.up ?_ _))); done) | ((repeat (first | (with_reducible exact grownBy_refl _ _) | (with_reducible refine GB.setNew ?_ (by first | exact LeS.le | exact LeS.add _ | (simp; done) | (simp; omega)) _ _) | (with_reducible refine GB.alloc ?_ _) | (with_reducible refine GB.drew ?_) | (with_reducible refine GB.upR ?_ _) | (with_reducible refine GB.up ?_ _))); done)
      clear hK K hHeld
      have hHeld := hHeld1; clear hHeld1
      try simp only [Act.put, List.setIfInBounds_toArray, List.set_cons_zero, List.set_cons_succ]
      refine wpAnyH_ready (rs := [7]) (by kernel_rfl) (by simp) ?_
      refine AllReadyH.cons (opAt rfl) (fun K hK => ?_) ?_
      · rw [if_pos (by rfl)]
        refine wp_store_row _ _ _ rfl _ _ rfl rfl _ _ (R1.out.up (w' := z6.val) (by repeat (first | (with_reducible exact Ext.refl _) | (with_reducible refine Ext.up ?_ _) | (with_reducible refine Ext.alloc ?_ _) | (with_reducible refine Ext.drew ?_) | (with_reducible refine Ext.setRow ?_ (by first | exact LeS.le | exact LeS.add _ | (simp; done) | (simp; omega)) _) | (with_reducible refine Ext.setCell ?_ (by first | exact LeS.le | exact LeS.add _ | (simp; done) | (simp; omega)) _)))).eq (by rw [vA_size, hal]; exact Try.sVals) (by rw [vA_size, vA_size, hal, zeros_length]) (vA_one _) ?_
        refine hK.out _ _ ?_ (fun hHeld1 => ?_)
        · (try dsimp only)
          refine S_of_gb ?_
          first | (refine GB.setRow' ?_ _; (repeat (first | (with_reducible exact grownBy_refl _ _) | (with_reducible refine GB.setNew ?_ (by first | exact LeS.le | exact LeS.add _ | (simp; done) | (simp; omega)) _ _) | (with_reducible refine GB.alloc ?_ _) | (with_reducible refine GB.drew ?_) | (with_reducible refine GB.upR ?_ _) | (with_reducible refine GB.up ?_ _))); done) | ((repeat (first | (with_reducible exact grownBy_refl _ _) | (with_reducible refine GB.setNew ?_ (by first | exact LeS.le | exact LeS.add _ | (simp; done) | (simp; omega)) _ _) | (with_reducible refine GB.alloc ?_ _) | (with_reducible refine GB.drew ?_) | (with_reducible refine GB.upR ?_ _) | (with_reducible refine GB.up ?_ _))); done)
        clear hK K hHeld
        have hHeld := hHeld1; clear hHeld1
        try simp only [Act.put, List.setIfInBounds_toArray, List.set_cons_zero, List.set_cons_succ]
        refine wpAnyH_done (by kernel_rfl) ?_ _
        go_wp2_with fail
        refine bodyPost_ret (results_cell_row (p := 4) (by kernel_rfl) _ _ (w.heap.size + 1) _ (vA AV) (0, 0) _ rfl ((R1.out.up (w' := z6.val) (by repeat (first | (with_reducible exact Ext.refl _) | (with_reducible refine Ext.up ?_ _) | (with_reducible refine Ext.alloc ?_ _) | (with_reducible refine Ext.drew ?_) | (with_reducible refine Ext.setRow ?_ (by first | exact LeS.le | exact LeS.add _ | (simp; done) | (simp; omega)) _) | (with_reducible refine Ext.setCell ?_ (by first | exact LeS.le | exact LeS.add _ | (simp; done) | (simp; omega)) _)))).setRow _).eq Try.underlying57 rfl (by rw [vA_size, hal]; exact Try.sVals)) rfl ⟨rfl, .of (Ext.setRow (Ext.up (HE2.out.drew) z6) (by omega) _)⟩
      exact AllReadyH.nil
    exact AllReadyH.nil
set_option maxRecDepth 100000 in
set_option maxHeartbeats 1000000 in
theorem iRightBlocks_any (t : Tree) (v0 v1 v2 : Value) (w : World) (h : ST w v0 v1 v2 t) :
    Calls Try.prog 16 #[.agg #[v0, v1, v2]] w fun e w' => ∃ v', e = .returned v' ∧ Up w w' ∧ Own encB 4 1 w.heap.size w' v' (rightsR t) := by
  obtain ⟨p0, c0, rfl, _, _⟩ := h.base.openc
  obtain ⟨p1, c1, rfl, hl1, _, hc1⟩ := h.bs.open
  obtain ⟨p2, c2, rfl, hlp, hcp⟩ := h.pr.open
  have H := Lib.hid h
  have kv := fun w h => iTreeValid_any t (.slice p0 t.base.length c0) (.slice p1 t.bs.length c1) (.slice p2 t.pr.length c2) w h
  have Hc1 := Lib.hid hc1; have Hcp := Lib.hid hcp
  clear h hc1 hcp
  unfold rightsR
  rcases hok : t.ok with _ | _
  · simp only [hok] at kv
    clear hok
    rw [if_neg (by decide)]
    go_enter Try.func16, Try.ntmps16
    go_wp2_with ((go_at_call 29; refine (kv _ (H.out.up (by repeat (first | (with_reducible exact Ext.refl _) | (with_reducible refine Ext.up ?_ _) | (with_reducible refine Ext.alloc ?_ _) | (with_reducible refine Ext.drew ?_) | (with_reducible refine Ext.setRow ?_ (by first | exact LeS.le | exact LeS.add _ | (simp; done) | (simp; omega)) _) | (with_reducible refine Ext.setCell ?_ (by first | exact LeS.le | exact LeS.add _ | (simp; done) | (simp; omega)) _))))).mono ?_; rintro e w' ⟨rfl, z1, rfl⟩))
    go_ret
    exact ⟨_, rfl, (.of (by repeat (first | (with_reducible exact Ext.refl _) | (with_reducible refine Ext.up ?_ _) | (with_reducible refine Ext.alloc ?_ _) | (with_reducible refine Ext.drew ?_) | (with_reducible refine Ext.setRow ?_ (by first | exact LeS.le | exact LeS.add _ | (simp; done) | (simp; omega)) _) | (with_reducible refine Ext.setCell ?_ (by first | exact LeS.le | exact LeS.add _ | (simp; done) | (simp; omega)) _)))), Own.nil _ _ _ _ _⟩
  rw [if_pos rfl]
  simp only [hok] at kv
  have Hok := Lib.hid hok
  have hb14 := (Tree.lens hok).2.2
  have Hpl := Lib.hid (Tree.lens hok).1
  clear hok
  go_enter Try.func16, Try.ntmps16
  go_wp2_with ((go_at_call 29; refine (kv _ (H.out.up (by repeat (first | (with_reducible exact Ext.refl _) | (with_reducible refine Ext.up ?_ _) | (with_reducible refine Ext.alloc ?_ _) | (with_reducible refine Ext.drew ?_) | (with_reducible refine Ext.setRow ?_ (by first | exact LeS.le | exact LeS.add _ | (simp; done) | (simp; omega)) _) | (with_reducible refine Ext.setCell ?_ (by first | exact LeS.le | exact LeS.add _ | (simp; done) | (simp; omega)) _))))).mono ?_; rintro e w' ⟨rfl, z1, rfl⟩))
  go_loopw [3, 13] (fun s3 s13 wr => ∃ k : Nat, s13 = .int .i64 k ∧ k ≤ t.bs.length ∧ Up z1.val wr ∧ Own encB 4 1 z1.val.heap.size wr s3 (rightsTo t k)) (fun _ s13 _ => t.bs.length - (intOf s13).toNat)
  case atStart => exact ⟨0, rfl, Nat.zero_le _, (.of (by repeat (first | (with_reducible exact Ext.refl _) | (with_reducible refine Ext.up ?_ _) | (with_reducible refine Ext.alloc ?_ _) | (with_reducible refine Ext.drew ?_) | (with_reducible refine Ext.setRow ?_ (by first | exact LeS.le | exact LeS.add _ | (simp; done) | (simp; omega)) _) | (with_reducible refine Ext.setCell ?_ (by first | exact LeS.le | exact LeS.add _ | (simp; done) | (simp; omega)) _)))), Own.nil _ _ _ _ _⟩
  case round =>
    obtain ⟨k, rfl, hk, ⟨z, rfl⟩, hown⟩ := hrel
    by_cases hlt : k < t.bs.length
    · obtain ⟨y, hyk⟩ := getElem?_some_of_lt hlt
      obtain ⟨b, off, q, d, rfl, hb, f0, f1, f2, f3, f4, f5, hx⟩ := Hc1.out k y hyk
      have hle := rightsTo_len t k
      obtain ⟨po, co, rfl, _, hco⟩ := (hown.sl encB_length).open
      rw [hle]
      have Hle := Lib.hid hle
      have hown' : Own encB 4 1 z1.val.heap.size z.val (.slice po k co) (rightsTo t k) := by have := hown; rw [hle] at this; exact this
      have Hown := Lib.hid hown'; have Hco := Lib.hid hco
      clear hle hown'
      have Hx := Lib.hid hx
      have ka := fun w h => ahead_any t (.slice p0 t.base.length c0) (.slice (some ⟨b, off, none⟩) t.bs.length c1) (.slice p2 t.pr.length c2) k w h Hok.out hlt
      have hfl := frontV_len t k
      have hfs := frontS_V Hok.out hlt
      have hR := rightAt_eq (out := rightsTo t k) hyk
      have Hr : Hid (rightsTo t (k + 1) = rightsTo t k ++ [rightAt t (rightsTo t k) k]) := Lib.hid rfl
      have kb := fun v w h h' => iBlockRight_any y.1 y.2 (frontS t k) (.slice q y.2.length d) v w h h'
      rw [hR] at Hr
      clear hx hyk hR hown hco
      generalize frontS t k = FS at *
      generalize frontV t k = FV at *
      generalize blkRight y.1 y.2 FS = rb at *
      rcases rb with _ | _
      · rw [Bool.false_and] at Hr
        go_wp2_with fail
        (refine wp_named ?_; intro W0 hW0; have hI := LtS.via hW0; go_region_held3 (fun w' => (∀ n i, ∀ [LtS n W0], w'.cell? ⟨n, i, none⟩ = W0.cell? ⟨n, i, none⟩) ∧ Ext W0 w') (((try subst hW0); refine S_of_ext ?_; (repeat (first | exact Ext.refl _ | refine Ext.up ?_ _ | refine Ext.alloc ?_ _ | refine Ext.drew ?_ | refine Ext.setRow ?_ (by first | (dsimp only; omega) | exact LeS.le | exact LeS.add _ | (simp; done) | (simp; omega)) _ | refine Ext.setCell ?_ (by first | (dsimp only; omega) | exact LeS.le | exact LeS.add _ | (simp; done) | (simp; omega)) _)); done)) (first | (go_at_call 48; refine (ka _ (H.out.up (by (try subst hW0); repeat (first | exact Ext.refl _ | refine Ext.up ?_ _ | refine Ext.alloc ?_ _ | refine Ext.drew ?_ | refine Ext.setRow ?_ (by first | (dsimp only; omega) | exact LeS.le | exact LeS.add _ | (simp; done) | (simp; omega)) _ | refine Ext.setCell ?_ (by first | (dsimp only; omega) | exact LeS.le | exact LeS.add _ | (simp; done) | (simp; omega)) _)))).mono ?_; rintro e w' ⟨rfl, ⟨z5, rfl⟩⟩) | (go_at_call 32; refine (store_any _ _ hfl).mono ?_; rintro e w' ⟨v6, rfl, ⟨z6, rfl⟩, o6⟩; rw [hfs] at o6) | (go_at_call 18; refine (kb _ _ (Hx.out.up (by (try subst hW0); repeat (first | exact Ext.refl _ | refine Ext.up ?_ _ | refine Ext.alloc ?_ _ | refine Ext.drew ?_ | refine Ext.setRow ?_ (by first | (dsimp only; omega) | exact LeS.le | exact LeS.add _ | (simp; done) | (simp; omega)) _ | refine Ext.setCell ?_ (by first | (dsimp only; omega) | exact LeS.le | exact LeS.add _ | (simp; done) | (simp; omega)) _))) (o6.sl Ent.enc_length)).mono ?_; rintro e w' ⟨rfl, ⟨z7, rfl⟩⟩)))
        subst hW0
        clear hI o6
        go_wp2_with (at_builtin; refine wpList_push1 fB rfl (.tmp 24) (.tmp 40) rfl encB z1.val false (rightsTo t k) rfl (Hown.out.up (by repeat (first | (with_reducible exact Ext.refl _) | (with_reducible refine Ext.up ?_ _) | (with_reducible refine Ext.alloc ?_ _) | (with_reducible refine Ext.drew ?_) | (with_reducible refine Ext.setRow ?_ (by first | exact LeS.le | exact LeS.add _ | (simp; done) | (simp; omega)) _) | (with_reducible refine Ext.setCell ?_ (by first | exact LeS.le | exact LeS.add _ | (simp; done) | (simp; omega)) _)))) (by repeat (first | (with_reducible exact Ext.refl _) | (with_reducible refine Ext.up ?_ _) | (with_reducible refine Ext.alloc ?_ _) | (with_reducible refine Ext.drew ?_) | (with_reducible refine Ext.setRow ?_ (by first | exact LeS.le | exact LeS.add _ | (simp; done) | (simp; omega)) _) | (with_reducible refine Ext.setCell ?_ (by first | exact LeS.le | exact LeS.add _ | (simp; done) | (simp; omega)) _))) rfl (by go_simp) rfl rfl (oneB _) (by rw [Hle.out]; omega) (by rw [Hle.out]; omega) ?_; intro v9 z9 o9)
        have O9 := Lib.hid o9; clear o9
        go_wp2_with fail
        go_roundw
        case rel => exact ⟨k + 1, by go_num, by omega, ⟨z9, rfl⟩, by rw [Hr.out]; exact O9.out⟩
        case measure => simp [intOf]; omega
      · rw [Bool.true_and] at Hr
        by_cases h0 : k = 0
        · have h0' : ((k : Int) == 0) = true := by simp [h0]
          rw [decide_eq_true h0, Bool.true_or] at Hr
          have H0 := Lib.hid h0; clear h0
          go_wp2_with fail
          (refine wp_named ?_; intro W0 hW0; have hI := LtS.via hW0; go_region_held3 (fun w' => (∀ n i, ∀ [LtS n W0], w'.cell? ⟨n, i, none⟩ = W0.cell? ⟨n, i, none⟩) ∧ Ext W0 w') (((try subst hW0); refine S_of_ext ?_; (repeat (first | exact Ext.refl _ | refine Ext.up ?_ _ | refine Ext.alloc ?_ _ | refine Ext.drew ?_ | refine Ext.setRow ?_ (by first | (dsimp only; omega) | exact LeS.le | exact LeS.add _ | (simp; done) | (simp; omega)) _ | refine Ext.setCell ?_ (by first | (dsimp only; omega) | exact LeS.le | exact LeS.add _ | (simp; done) | (simp; omega)) _)); done)) (first | (go_at_call 48; refine (ka _ (H.out.up (by (try subst hW0); repeat (first | exact Ext.refl _ | refine Ext.up ?_ _ | refine Ext.alloc ?_ _ | refine Ext.drew ?_ | refine Ext.setRow ?_ (by first | (dsimp only; omega) | exact LeS.le | exact LeS.add _ | (simp; done) | (simp; omega)) _ | refine Ext.setCell ?_ (by first | (dsimp only; omega) | exact LeS.le | exact LeS.add _ | (simp; done) | (simp; omega)) _)))).mono ?_; rintro e w' ⟨rfl, ⟨z5, rfl⟩⟩) | (go_at_call 32; refine (store_any _ _ hfl).mono ?_; rintro e w' ⟨v6, rfl, ⟨z6, rfl⟩, o6⟩; rw [hfs] at o6) | (go_at_call 18; refine (kb _ _ (Hx.out.up (by (try subst hW0); repeat (first | exact Ext.refl _ | refine Ext.up ?_ _ | refine Ext.alloc ?_ _ | refine Ext.drew ?_ | refine Ext.setRow ?_ (by first | (dsimp only; omega) | exact LeS.le | exact LeS.add _ | (simp; done) | (simp; omega)) _ | refine Ext.setCell ?_ (by first | (dsimp only; omega) | exact LeS.le | exact LeS.add _ | (simp; done) | (simp; omega)) _))) (o6.sl Ent.enc_length)).mono ?_; rintro e w' ⟨rfl, ⟨z7, rfl⟩⟩)))
          subst hW0
          clear hI o6
          go_wp2_with (at_builtin; refine wpList_push1 fB rfl (.tmp 24) (.tmp 40) rfl encB z1.val true (rightsTo t k) rfl (Hown.out.up (by repeat (first | (with_reducible exact Ext.refl _) | (with_reducible refine Ext.up ?_ _) | (with_reducible refine Ext.alloc ?_ _) | (with_reducible refine Ext.drew ?_) | (with_reducible refine Ext.setRow ?_ (by first | exact LeS.le | exact LeS.add _ | (simp; done) | (simp; omega)) _) | (with_reducible refine Ext.setCell ?_ (by first | exact LeS.le | exact LeS.add _ | (simp; done) | (simp; omega)) _)))) (by repeat (first | (with_reducible exact Ext.refl _) | (with_reducible refine Ext.up ?_ _) | (with_reducible refine Ext.alloc ?_ _) | (with_reducible refine Ext.drew ?_) | (with_reducible refine Ext.setRow ?_ (by first | exact LeS.le | exact LeS.add _ | (simp; done) | (simp; omega)) _) | (with_reducible refine Ext.setCell ?_ (by first | exact LeS.le | exact LeS.add _ | (simp; done) | (simp; omega)) _))) rfl (by go_simp) rfl rfl (oneB _) (by rw [Hle.out]; omega) (by rw [Hle.out]; omega) ?_; intro v9 z9 o9)
          have O9 := Lib.hid o9; clear o9
          go_wp2_with fail
          go_roundw
          case rel => exact ⟨k + 1, by go_num, by omega, ⟨z9, rfl⟩, by rw [Hr.out]; exact O9.out⟩
          case measure => simp [intOf]; omega
        · obtain ⟨m, hm, hpa, hmk, _⟩ := link_at Hok.out h0 hlt
          have h0' : ((k : Int) == 0) = false := by rw [beq_eq_false_iff_ne]; omega
          obtain ⟨b2, off2, rfl, hb2, hcc2⟩ := Hcp.out k _ hm
          have e0 : w.cell? ⟨b2, off2 + k, none⟩ = some (.int .i64 m) := by have := hcc2 0 _ rfl; simpa using this
          obtain ⟨u, hu⟩ := getElem?_some_of_lt (l := rightsTo t k) (k := m) (by rw [rightsTo_len]; exact hmk)
          obtain ⟨b3, off3, rfl, hb3, hcc3⟩ := Hco.out m u hu
          have e1 : z.val.cell? ⟨b3, off3 + m, none⟩ = some (.bool u) := by have := hcc3 0 _ rfl; simpa using this
          have hd : (rightsTo t k).getD (prAt t k).toNat false = u := by rw [hpa, Int.toNat_natCast]; simp [List.getD, hu]
          rw [decide_eq_false h0, Bool.false_or, hd] at Hr
          have m0 : (0 : Int) ≤ (m : Int) := by omega
          have m1 : (m : Int) < (k : Int) := by omega
          have k0 : (0 : Int) ≤ (k : Int) := by omega
          have k1 : (k : Int) < t.pr.length := by have := Hpl.out; omega
          clear hm hpa hcc2 hu hcc3 hd h0
          go_wp2_with fail
          (refine wp_named ?_; intro W0 hW0; have hI := LtS.via hW0; go_region_held3 (fun w' => (∀ n i, ∀ [LtS n W0], w'.cell? ⟨n, i, none⟩ = W0.cell? ⟨n, i, none⟩) ∧ Ext W0 w') (((try subst hW0); refine S_of_ext ?_; (repeat (first | exact Ext.refl _ | refine Ext.up ?_ _ | refine Ext.alloc ?_ _ | refine Ext.drew ?_ | refine Ext.setRow ?_ (by first | (dsimp only; omega) | exact LeS.le | exact LeS.add _ | (simp; done) | (simp; omega)) _ | refine Ext.setCell ?_ (by first | (dsimp only; omega) | exact LeS.le | exact LeS.add _ | (simp; done) | (simp; omega)) _)); done)) (first | (go_at_call 48; refine (ka _ (H.out.up (by (try subst hW0); repeat (first | exact Ext.refl _ | refine Ext.up ?_ _ | refine Ext.alloc ?_ _ | refine Ext.drew ?_ | refine Ext.setRow ?_ (by first | (dsimp only; omega) | exact LeS.le | exact LeS.add _ | (simp; done) | (simp; omega)) _ | refine Ext.setCell ?_ (by first | (dsimp only; omega) | exact LeS.le | exact LeS.add _ | (simp; done) | (simp; omega)) _)))).mono ?_; rintro e w' ⟨rfl, ⟨z5, rfl⟩⟩) | (go_at_call 32; refine (store_any _ _ hfl).mono ?_; rintro e w' ⟨v6, rfl, ⟨z6, rfl⟩, o6⟩; rw [hfs] at o6) | (go_at_call 18; refine (kb _ _ (Hx.out.up (by (try subst hW0); repeat (first | exact Ext.refl _ | refine Ext.up ?_ _ | refine Ext.alloc ?_ _ | refine Ext.drew ?_ | refine Ext.setRow ?_ (by first | (dsimp only; omega) | exact LeS.le | exact LeS.add _ | (simp; done) | (simp; omega)) _ | refine Ext.setCell ?_ (by first | (dsimp only; omega) | exact LeS.le | exact LeS.add _ | (simp; done) | (simp; omega)) _))) (o6.sl Ent.enc_length)).mono ?_; rintro e w' ⟨rfl, ⟨z7, rfl⟩⟩)))
          subst hW0
          clear hI o6
          go_wp2_with (at_builtin; refine wpList_push1 fB rfl (.tmp 24) (.tmp 40) rfl encB z1.val u (rightsTo t k) rfl (Hown.out.up (by repeat (first | (with_reducible exact Ext.refl _) | (with_reducible refine Ext.up ?_ _) | (with_reducible refine Ext.alloc ?_ _) | (with_reducible refine Ext.drew ?_) | (with_reducible refine Ext.setRow ?_ (by first | exact LeS.le | exact LeS.add _ | (simp; done) | (simp; omega)) _) | (with_reducible refine Ext.setCell ?_ (by first | exact LeS.le | exact LeS.add _ | (simp; done) | (simp; omega)) _)))) (by repeat (first | (with_reducible exact Ext.refl _) | (with_reducible refine Ext.up ?_ _) | (with_reducible refine Ext.alloc ?_ _) | (with_reducible refine Ext.drew ?_) | (with_reducible refine Ext.setRow ?_ (by first | exact LeS.le | exact LeS.add _ | (simp; done) | (simp; omega)) _) | (with_reducible refine Ext.setCell ?_ (by first | exact LeS.le | exact LeS.add _ | (simp; done) | (simp; omega)) _))) rfl (by go_simp) rfl rfl (oneB _) (by rw [Hle.out]; omega) (by rw [Hle.out]; omega) ?_; intro v9 z9 o9)
          have O9 := Lib.hid o9; clear o9
          go_wp2_with fail
          go_roundw
          case rel => exact ⟨k + 1, by go_num, by omega, ⟨z9, rfl⟩, by rw [Hr.out]; exact O9.out⟩
          case measure => simp [intOf]; omega
    · obtain rfl : k = t.bs.length := by omega
      have Hown := Lib.hid hown; clear hown
      go_wp2_with fail
      go_ret
      exact ⟨_, rfl, (.of (by repeat (first | (with_reducible exact Ext.refl _) | (with_reducible refine Ext.up ?_ _) | (with_reducible refine Ext.alloc ?_ _) | (with_reducible refine Ext.drew ?_) | (with_reducible refine Ext.setRow ?_ (by first | exact LeS.le | exact LeS.add _ | (simp; done) | (simp; omega)) _) | (with_reducible refine Ext.setCell ?_ (by first | exact LeS.le | exact LeS.add _ | (simp; done) | (simp; omega)) _)))), Hown.out.lo LeS.le⟩
set_option maxRecDepth 100000 in
set_option maxHeartbeats 1000000 in
theorem sRightBlocks_any (t : Tree) (v0 v1 v2 : Value) (w : World) (h : ST w v0 v1 v2 t) :
    Calls Try.prog 17 #[.agg #[v0, v1, v2]] w fun e w' => ∃ v', e = .returned v' ∧ Up w w' ∧ Own encB 4 1 w.heap.size w' v' (rightsR t) := by
  obtain ⟨p0, c0, rfl, _, _⟩ := h.base.openc
  obtain ⟨p1, c1, rfl, hl1, _, hc1⟩ := h.bs.open
  obtain ⟨p2, c2, rfl, hlp, hcp⟩ := h.pr.open
  have H := Lib.hid h; have HB := Lib.hid h.base
  have kv := fun w h => sTreeValid_any t (.slice p0 t.base.length c0) (.slice p1 t.bs.length c1) (.slice p2 t.pr.length c2) w h
  have Hc1 := Lib.hid hc1; have Hcp := Lib.hid hcp
  clear h hc1 hcp
  unfold rightsR
  rcases hok : t.ok with _ | _
  · simp only [hok] at kv
    clear hok
    rw [if_neg (by decide)]
    go_enter Try.func17, Try.ntmps17
    go_wp2_with fail
    go_loopw [3, 4] (fun s3 s4 wr => s4 = .int .i64 0 ∧ Up (w.alloc (.cells #[.slice p0 t.base.length c0, .slice p1 t.bs.length c1, .slice p2 t.pr.length c2] 27)) wr ∧ Own encB 4 1 w.heap.size wr s3 []) (fun _ _ _ => 0)
    case atStart => exact ⟨rfl, (.of (by repeat (first | (with_reducible exact Ext.refl _) | (with_reducible refine Ext.up ?_ _) | (with_reducible refine Ext.alloc ?_ _) | (with_reducible refine Ext.drew ?_) | (with_reducible refine Ext.setRow ?_ (by first | exact LeS.le | exact LeS.add _ | (simp; done) | (simp; omega)) _) | (with_reducible refine Ext.setCell ?_ (by first | exact LeS.le | exact LeS.add _ | (simp; done) | (simp; omega)) _)))), own_row (heap_alloc2_new _ _ _) (by omega) rfl rfl encB_length (by decide)⟩
    case round =>
      obtain ⟨rfl, ⟨z, rfl⟩, hown⟩ := hrel
      have Hown := Lib.hid hown; clear hown
      go_wp2_with ((go_at_call 11; refine (kv _ (H.out.up (by repeat (first | (with_reducible exact Ext.refl _) | (with_reducible refine Ext.up ?_ _) | (with_reducible refine Ext.alloc ?_ _) | (with_reducible refine Ext.drew ?_) | (with_reducible refine Ext.setRow ?_ (by first | exact LeS.le | exact LeS.add _ | (simp; done) | (simp; omega)) _) | (with_reducible refine Ext.setCell ?_ (by first | exact LeS.le | exact LeS.add _ | (simp; done) | (simp; omega)) _))))).mono ?_; rintro e w' ⟨rfl, z4, rfl⟩))
      go_ret
      exact ⟨_, rfl, (.of (by repeat (first | (with_reducible exact Ext.refl _) | (with_reducible refine Ext.up ?_ _) | (with_reducible refine Ext.alloc ?_ _) | (with_reducible refine Ext.drew ?_) | (with_reducible refine Ext.setRow ?_ (by first | exact LeS.le | exact LeS.add _ | (simp; done) | (simp; omega)) _) | (with_reducible refine Ext.setCell ?_ (by first | exact LeS.le | exact LeS.add _ | (simp; done) | (simp; omega)) _)))), Hown.out.up (by repeat (first | (with_reducible exact Ext.refl _) | (with_reducible refine Ext.up ?_ _) | (with_reducible refine Ext.alloc ?_ _) | (with_reducible refine Ext.drew ?_) | (with_reducible refine Ext.setRow ?_ (by first | exact LeS.le | exact LeS.add _ | (simp; done) | (simp; omega)) _) | (with_reducible refine Ext.setCell ?_ (by first | exact LeS.le | exact LeS.add _ | (simp; done) | (simp; omega)) _)))⟩
  rw [if_pos rfl]
  simp only [hok] at kv
  have Hok := Lib.hid hok
  have hb14 := (Tree.lens hok).2.2
  have Hpl := Lib.hid (Tree.lens hok).1
  clear hok
  go_enter Try.func17, Try.ntmps17
  go_wp2_with fail
  go_loopw [3, 4] (fun s3 s4 wr => ∃ k : Nat, s4 = .int .i64 k ∧ k ≤ t.bs.length ∧ Up (w.alloc (.cells #[.slice p0 t.base.length c0, .slice p1 t.bs.length c1, .slice p2 t.pr.length c2] 27)) wr ∧ Own encB 4 1 (w.alloc (.cells #[.slice p0 t.base.length c0, .slice p1 t.bs.length c1, .slice p2 t.pr.length c2] 27)).heap.size wr s3 (rightsTo t k)) (fun _ s4 _ => t.bs.length - (intOf s4).toNat)
  case atStart => exact ⟨0, rfl, Nat.zero_le _, (.of (by repeat (first | (with_reducible exact Ext.refl _) | (with_reducible refine Ext.up ?_ _) | (with_reducible refine Ext.alloc ?_ _) | (with_reducible refine Ext.drew ?_) | (with_reducible refine Ext.setRow ?_ (by first | exact LeS.le | exact LeS.add _ | (simp; done) | (simp; omega)) _) | (with_reducible refine Ext.setCell ?_ (by first | exact LeS.le | exact LeS.add _ | (simp; done) | (simp; omega)) _)))), own_row (heap_alloc2_new _ _ _) (by simp) rfl rfl encB_length (by decide)⟩
  case round =>
    obtain ⟨k, rfl, hk, ⟨z, rfl⟩, hown⟩ := hrel
    by_cases hlt : k < t.bs.length
    · obtain ⟨y, hyk⟩ := getElem?_some_of_lt hlt
      obtain ⟨b, off, q, d, rfl, hb, f0, f1, f2, f3, f4, f5, hx⟩ := Hc1.out k y hyk
      have hle := rightsTo_len t k
      obtain ⟨po, co, rfl, _, hco⟩ := (hown.sl encB_length).open
      rw [hle]
      have Hle := Lib.hid hle
      have hown' : Own encB 4 1 (w.alloc (.cells #[.slice p0 t.base.length c0, .slice (some ⟨b, off, none⟩) t.bs.length c1, .slice p2 t.pr.length c2] 27)).heap.size z.val (.slice po k co) (rightsTo t k) := by have := hown; rw [hle] at this; exact this
      have Hown := Lib.hid hown'; have Hco := Lib.hid hco
      have Hx := Lib.hid hx
      have hR := rightAt_eq (out := rightsTo t k) hyk
      have Hr : Hid (rightsTo t (k + 1) = rightsTo t k ++ [rightAt t (rightsTo t k) k]) := Lib.hid rfl
      rw [hR] at Hr
      clear hle hown' hx hyk hR hown hco
      by_cases h0 : k = 0
      · have hF : frontS t k = t.base := by unfold frontS; rw [if_pos h0]
        have kb := fun v w h h' => sBlockRight_any y.1 y.2 t.base (.slice q y.2.length d) v w h h'
        rw [hF, decide_eq_true h0, Bool.true_or, Bool.and_true] at Hr
        generalize blkRight y.1 y.2 t.base = rb at *
        have hn0 : ¬ 0 < k := by omega
        clear hF h0
        go_wp2_with (first | (go_at_call 11; refine (kv _ (H.out.up (by repeat (first | (with_reducible exact Ext.refl _) | (with_reducible refine Ext.up ?_ _) | (with_reducible refine Ext.alloc ?_ _) | (with_reducible refine Ext.drew ?_) | (with_reducible refine Ext.setRow ?_ (by first | exact LeS.le | exact LeS.add _ | (simp; done) | (simp; omega)) _) | (with_reducible refine Ext.setCell ?_ (by first | exact LeS.le | exact LeS.add _ | (simp; done) | (simp; omega)) _))))).mono ?_; rintro e w' ⟨rfl, z4, rfl⟩))
        go_wp2_with (first | (go_at_call 21; refine (kb _ _ (Hx.out.up (by repeat (first | (with_reducible exact Ext.refl _) | (with_reducible refine Ext.up ?_ _) | (with_reducible refine Ext.alloc ?_ _) | (with_reducible refine Ext.drew ?_) | (with_reducible refine Ext.setRow ?_ (by first | exact LeS.le | exact LeS.add _ | (simp; done) | (simp; omega)) _) | (with_reducible refine Ext.setCell ?_ (by first | exact LeS.le | exact LeS.add _ | (simp; done) | (simp; omega)) _)))) (HB.out.up (by repeat (first | (with_reducible exact Ext.refl _) | (with_reducible refine Ext.up ?_ _) | (with_reducible refine Ext.alloc ?_ _) | (with_reducible refine Ext.drew ?_) | (with_reducible refine Ext.setRow ?_ (by first | exact LeS.le | exact LeS.add _ | (simp; done) | (simp; omega)) _) | (with_reducible refine Ext.setCell ?_ (by first | exact LeS.le | exact LeS.add _ | (simp; done) | (simp; omega)) _))))).mono ?_; rintro e w' ⟨rfl, z7, rfl⟩) | (at_builtin; refine wpList_push1 fB rfl (.tmp 38) (.tmp 49) rfl encB (w.alloc (.cells #[.slice p0 t.base.length c0, .slice (some ⟨b, off, none⟩) t.bs.length c1, .slice p2 t.pr.length c2] 27)) rb (rightsTo t k) rfl (Hown.out.up (by repeat (first | (with_reducible exact Ext.refl _) | (with_reducible refine Ext.up ?_ _) | (with_reducible refine Ext.alloc ?_ _) | (with_reducible refine Ext.drew ?_) | (with_reducible refine Ext.setRow ?_ (by first | exact LeS.le | exact LeS.add _ | (simp; done) | (simp; omega)) _) | (with_reducible refine Ext.setCell ?_ (by first | exact LeS.le | exact LeS.add _ | (simp; done) | (simp; omega)) _)))) (by repeat (first | (with_reducible exact Ext.refl _) | (with_reducible refine Ext.up ?_ _) | (with_reducible refine Ext.alloc ?_ _) | (with_reducible refine Ext.drew ?_) | (with_reducible refine Ext.setRow ?_ (by first | exact LeS.le | exact LeS.add _ | (simp; done) | (simp; omega)) _) | (with_reducible refine Ext.setCell ?_ (by first | exact LeS.le | exact LeS.add _ | (simp; done) | (simp; omega)) _))) rfl (by go_simp) rfl rfl (oneB _) (by rw [Hle.out]; omega) (by rw [Hle.out]; omega) ?_; intro v9 z9 o9))
        have O9 := Lib.hid o9; clear o9
        go_wp2_with fail
        go_roundw
        case rel => exact ⟨k + 1, by go_num, by omega, ⟨z9, rfl⟩, by rw [Hr.out]; exact O9.out⟩
        case measure => simp [intOf]; omega
      · obtain ⟨m, hm, hpa, hmk, _⟩ := link_at Hok.out h0 hlt
        have hF : frontS t k = storeR t (m : Int) := by unfold frontS; rw [if_neg h0, hpa]
        have kb := fun v w h h' => sBlockRight_any y.1 y.2 (storeR t (m : Int)) (.slice q y.2.length d) v w h h'
        have ks := fun w h => sStoreOf_any t (.slice p0 t.base.length c0) (.slice (some ⟨b, off, none⟩) t.bs.length c1) (.slice p2 t.pr.length c2) (m : Int) w h
        obtain ⟨b2, off2, rfl, hb2, hcc2⟩ := Hcp.out k _ hm
        have e0 : w.cell? ⟨b2, off2 + k, none⟩ = some (.int .i64 m) := by have := hcc2 0 _ rfl; simpa using this
        obtain ⟨u, hu⟩ := getElem?_some_of_lt (l := rightsTo t k) (k := m) (by rw [rightsTo_len]; exact hmk)
        obtain ⟨b3, off3, rfl, hb3, hcc3⟩ := Hco.out m u hu
        have e1 : z.val.cell? ⟨b3, off3 + m, none⟩ = some (.bool u) := by have := hcc3 0 _ rfl; simpa using this
        have hd : (rightsTo t k).getD (prAt t k).toNat false = u := by rw [hpa, Int.toNat_natCast]; simp [List.getD, hu]
        rw [hF, decide_eq_false h0, Bool.false_or, hd] at Hr
        have m0 : (0 : Int) ≤ (m : Int) := by omega
        have m1 : (m : Int) < (k : Int) := by omega
        have k0 : (0 : Int) ≤ (k : Int) := by omega
        have k1 : (k : Int) < t.pr.length := by have := Hpl.out; omega
        have hn0 : 0 < k := by omega
        generalize storeR t (m : Int) = FS at *
        generalize blkRight y.1 y.2 FS = rb at *
        clear hm hpa hcc2 hu hcc3 hd h0 hF
        go_wp2_with (first | (go_at_call 11; refine (kv _ (H.out.up (by repeat (first | (with_reducible exact Ext.refl _) | (with_reducible refine Ext.up ?_ _) | (with_reducible refine Ext.alloc ?_ _) | (with_reducible refine Ext.drew ?_) | (with_reducible refine Ext.setRow ?_ (by first | exact LeS.le | exact LeS.add _ | (simp; done) | (simp; omega)) _) | (with_reducible refine Ext.setCell ?_ (by first | exact LeS.le | exact LeS.add _ | (simp; done) | (simp; omega)) _))))).mono ?_; rintro e w' ⟨rfl, z4, rfl⟩))
        (refine wp_named ?_; intro W0 hW0; have hI := LtS.via hW0; go_region_held3 (fun w' => (∀ n i, ∀ [LtS n W0], w'.cell? ⟨n, i, none⟩ = W0.cell? ⟨n, i, none⟩) ∧ Ext W0 w') (((try subst hW0); refine S_of_ext ?_; (repeat (first | exact Ext.refl _ | refine Ext.up ?_ _ | refine Ext.alloc ?_ _ | refine Ext.drew ?_ | refine Ext.setRow ?_ (by first | (dsimp only; omega) | exact LeS.le | exact LeS.add _ | (simp; done) | (simp; omega)) _ | refine Ext.setCell ?_ (by first | (dsimp only; omega) | exact LeS.le | exact LeS.add _ | (simp; done) | (simp; omega)) _)); done)) ((go_at_call 10; refine (ks _ (H.out.up (by (try subst hW0); repeat (first | exact Ext.refl _ | refine Ext.up ?_ _ | refine Ext.alloc ?_ _ | refine Ext.drew ?_ | refine Ext.setRow ?_ (by first | (dsimp only; omega) | exact LeS.le | exact LeS.add _ | (simp; done) | (simp; omega)) _ | refine Ext.setCell ?_ (by first | (dsimp only; omega) | exact LeS.le | exact LeS.add _ | (simp; done) | (simp; omega)) _)))).mono ?_; rintro e w' ⟨v5, rfl, ⟨z5, rfl⟩, o5⟩)))
        subst hW0
        obtain ⟨p5, c5, rfl, _, _⟩ := (o5.sl Ent.enc_length).openc
        have O5 := Lib.hid (o5.sl Ent.enc_length)
        clear hI o5
        rcases u with _ | _
        · rw [Bool.and_false] at Hr
          go_wp2_with (first | (at_builtin; refine wpList_push1 fB rfl (.tmp 38) (.tmp 49) rfl encB (w.alloc (.cells #[.slice p0 t.base.length c0, .slice (some ⟨b, off, none⟩) t.bs.length c1, .slice (some ⟨b2, off2, none⟩) t.pr.length c2] 27)) false (rightsTo t k) rfl (Hown.out.up (by repeat (first | (with_reducible exact Ext.refl _) | (with_reducible refine Ext.up ?_ _) | (with_reducible refine Ext.alloc ?_ _) | (with_reducible refine Ext.drew ?_) | (with_reducible refine Ext.setRow ?_ (by first | exact LeS.le | exact LeS.add _ | (simp; done) | (simp; omega)) _) | (with_reducible refine Ext.setCell ?_ (by first | exact LeS.le | exact LeS.add _ | (simp; done) | (simp; omega)) _)))) (by repeat (first | (with_reducible exact Ext.refl _) | (with_reducible refine Ext.up ?_ _) | (with_reducible refine Ext.alloc ?_ _) | (with_reducible refine Ext.drew ?_) | (with_reducible refine Ext.setRow ?_ (by first | exact LeS.le | exact LeS.add _ | (simp; done) | (simp; omega)) _) | (with_reducible refine Ext.setCell ?_ (by first | exact LeS.le | exact LeS.add _ | (simp; done) | (simp; omega)) _))) rfl (by go_simp) rfl rfl (oneB _) (by rw [Hle.out]; omega) (by rw [Hle.out]; omega) ?_; intro v9 z9 o9))
          have O9 := Lib.hid o9; clear o9
          go_wp2_with fail
          go_roundw
          case rel => exact ⟨k + 1, by go_num, by omega, ⟨z9, rfl⟩, by rw [Hr.out]; exact O9.out⟩
          case measure => simp [intOf]; omega
        · rw [Bool.and_true] at Hr
          go_wp2_with (first | (go_at_call 21; refine (kb _ _ (Hx.out.up (by repeat (first | (with_reducible exact Ext.refl _) | (with_reducible refine Ext.up ?_ _) | (with_reducible refine Ext.alloc ?_ _) | (with_reducible refine Ext.drew ?_) | (with_reducible refine Ext.setRow ?_ (by first | exact LeS.le | exact LeS.add _ | (simp; done) | (simp; omega)) _) | (with_reducible refine Ext.setCell ?_ (by first | exact LeS.le | exact LeS.add _ | (simp; done) | (simp; omega)) _)))) (O5.out.up (by repeat (first | (with_reducible exact Ext.refl _) | (with_reducible refine Ext.up ?_ _) | (with_reducible refine Ext.alloc ?_ _) | (with_reducible refine Ext.drew ?_) | (with_reducible refine Ext.setRow ?_ (by first | exact LeS.le | exact LeS.add _ | (simp; done) | (simp; omega)) _) | (with_reducible refine Ext.setCell ?_ (by first | exact LeS.le | exact LeS.add _ | (simp; done) | (simp; omega)) _))))).mono ?_; rintro e w' ⟨rfl, z7, rfl⟩) | (at_builtin; refine wpList_push1 fB rfl (.tmp 38) (.tmp 49) rfl encB (w.alloc (.cells #[.slice p0 t.base.length c0, .slice (some ⟨b, off, none⟩) t.bs.length c1, .slice (some ⟨b2, off2, none⟩) t.pr.length c2] 27)) rb (rightsTo t k) rfl (Hown.out.up (by repeat (first | (with_reducible exact Ext.refl _) | (with_reducible refine Ext.up ?_ _) | (with_reducible refine Ext.alloc ?_ _) | (with_reducible refine Ext.drew ?_) | (with_reducible refine Ext.setRow ?_ (by first | exact LeS.le | exact LeS.add _ | (simp; done) | (simp; omega)) _) | (with_reducible refine Ext.setCell ?_ (by first | exact LeS.le | exact LeS.add _ | (simp; done) | (simp; omega)) _)))) (by repeat (first | (with_reducible exact Ext.refl _) | (with_reducible refine Ext.up ?_ _) | (with_reducible refine Ext.alloc ?_ _) | (with_reducible refine Ext.drew ?_) | (with_reducible refine Ext.setRow ?_ (by first | exact LeS.le | exact LeS.add _ | (simp; done) | (simp; omega)) _) | (with_reducible refine Ext.setCell ?_ (by first | exact LeS.le | exact LeS.add _ | (simp; done) | (simp; omega)) _))) rfl (by go_simp) rfl rfl (oneB _) (by rw [Hle.out]; omega) (by rw [Hle.out]; omega) ?_; intro v9 z9 o9))
          have O9 := Lib.hid o9; clear o9
          go_wp2_with fail
          go_roundw
          case rel => exact ⟨k + 1, by go_num, by omega, ⟨z9, rfl⟩, by rw [Hr.out]; exact O9.out⟩
          case measure => simp [intOf]; omega
    · obtain rfl : k = t.bs.length := by omega
      have Hown := Lib.hid hown; clear hown
      go_wp2_with ((go_at_call 11; refine (kv _ (H.out.up (by repeat (first | (with_reducible exact Ext.refl _) | (with_reducible refine Ext.up ?_ _) | (with_reducible refine Ext.alloc ?_ _) | (with_reducible refine Ext.drew ?_) | (with_reducible refine Ext.setRow ?_ (by first | exact LeS.le | exact LeS.add _ | (simp; done) | (simp; omega)) _) | (with_reducible refine Ext.setCell ?_ (by first | exact LeS.le | exact LeS.add _ | (simp; done) | (simp; omega)) _))))).mono ?_; rintro e w' ⟨rfl, z4, rfl⟩))
      go_ret
      exact ⟨_, rfl, (.of (by repeat (first | (with_reducible exact Ext.refl _) | (with_reducible refine Ext.up ?_ _) | (with_reducible refine Ext.alloc ?_ _) | (with_reducible refine Ext.drew ?_) | (with_reducible refine Ext.setRow ?_ (by first | exact LeS.le | exact LeS.add _ | (simp; done) | (simp; omega)) _) | (with_reducible refine Ext.setCell ?_ (by first | exact LeS.le | exact LeS.add _ | (simp; done) | (simp; omega)) _)))), (Hown.out.up (by repeat (first | (with_reducible exact Ext.refl _) | (with_reducible refine Ext.up ?_ _) | (with_reducible refine Ext.alloc ?_ _) | (with_reducible refine Ext.drew ?_) | (with_reducible refine Ext.setRow ?_ (by first | exact LeS.le | exact LeS.add _ | (simp; done) | (simp; omega)) _) | (with_reducible refine Ext.setCell ?_ (by first | exact LeS.le | exact LeS.add _ | (simp; done) | (simp; omega)) _)))).lo LeS.le⟩
end Go.Proofs.Yteiemjebdhmnaaa
