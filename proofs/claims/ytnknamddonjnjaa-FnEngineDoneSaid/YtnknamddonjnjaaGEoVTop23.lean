/- Walks: engines, the reference's side: EngineOf. -/
import Derived.Test.YtnknamddonjnjaaGEoVTop22
import Derived.Test.YtnknamddonjnjaaGEoVTop06
import Derived.Test.YtnknamddonjnjaaGEoVTop01
set_option linter.unusedSimpArgs false
set_option linter.unusedVariables false
namespace Go.Proofs.Ytnknamddonjnjaa
open Go Go.RowKit Go.Proofs

theorem zerosS_flat (n : Nat) : (madeCells #[.int .i64 0, .int .i64 0, .slice none 0 0, .bool false, .slice none 0 0, .slice none 0 0] (n * 6)).toList = (List.replicate n (⟨0, 0, .slice none 0 0, false, .slice none 0 0, .slice none 0 0, [], [], []⟩ : TS)).flatMap TS.enc := by
  apply List.ext_getElem?
  intro j
  by_cases hj : j < n * 6
  · have hq : j / 6 < n := by omega
    have hx : (List.replicate n (⟨0, 0, .slice none 0 0, false, .slice none 0 0, .slice none 0 0, [], [], []⟩ : TS))[j / 6]? = some ⟨0, 0, .slice none 0 0, false, .slice none 0 0, .slice none 0 0, [], [], []⟩ := by rw [List.getElem?_replicate, if_pos hq]
    obtain ⟨u, hu⟩ := getElem?_some_of_lt (l := TS.enc ⟨0, 0, .slice none 0 0, false, .slice none 0 0, .slice none 0 0, [], [], []⟩) (k := j % 6) (by rw [TS.enc_length]; omega)
    have := flatMap_get TS.enc_length hx hu
    rw [show j / 6 * 6 + j % 6 = j from by omega] at this
    rw [this, ← hu]
    simp only [madeCells, Array.getElem?_toList]
    rw [Array.getElem?_map, Array.getElem?_range, if_pos hj]
    simp only [Option.map_some]
    rcases (show j % 6 = 0 ∨ j % 6 = 1 ∨ j % 6 = 2 ∨ j % 6 = 3 ∨ j % 6 = 4 ∨ j % 6 = 5 by omega) with h | h | h | h | h | h <;> (rw [show (#[Value.int .i64 0, Value.int .i64 0, Value.slice none 0 0, Value.bool false, Value.slice none 0 0, Value.slice none 0 0] : Array Value).size = 6 from rfl, h]; rfl)
  · rw [List.getElem?_eq_none (by simp [madeCells]; omega), List.getElem?_eq_none (by rw [flatMap_length TS.enc_length]; simp; omega)]
theorem infSlot : ∃ i z, Try.prog.info? 39 = some i ∧ i.zero = some z ∧ i.size = 6 ∧ i.bytes ≤ 1000 ∧ z.cells = #[.int .i64 0, .int .i64 0, .slice none 0 0, .bool false, .slice none 0 0, .slice none 0 0] := by
  have h : ((Try.prog.info? 39).bind fun i => i.zero.map fun z => (i.size, decide (i.bytes ≤ 1000), z.cells)) = some (6, true, #[.int .i64 0, .int .i64 0, .slice none 0 0, .bool false, .slice none 0 0, .slice none 0 0]) := by kernel_rfl
  rw [Option.bind_eq_some_iff] at h
  obtain ⟨i, hi, h⟩ := h
  rw [Option.map_eq_some_iff] at h
  obtain ⟨z, hz, h⟩ := h
  simp only [Prod.mk.injEq, decide_eq_true_eq] at h
  exact ⟨i, z, hi, hz, h.1, h.2.1, h.2.2⟩
def zeroTS : TS := ⟨0, 0, .slice none 0 0, false, .slice none 0 0, .slice none 0 0, [], [], []⟩
/-- Slots that are made all at once. -/
theorem OSA.zeros {lo g n : Nat} {w : World} (h : w.ownsRow lo 39 6 (.slice (some ⟨g, 0, none⟩) n n) n ((List.replicate n zeroTS).flatMap TS.enc)) : OSA lo w (.slice (some ⟨g, 0, none⟩) n n) (List.replicate n zeroTS) := by
  refine ⟨?_, fun x hx => ?_, fun x hx u hu => ?_, ?_⟩
  · show World.ownsRow _ _ _ _ _ _ _
    rw [List.length_replicate]; exact h
  · obtain rfl := (List.mem_replicate.1 hx).2
    exact ⟨Own.nil _ _ _ _ _, Own.nil _ _ _ _ _, Own.nil _ _ _ _ _⟩
  · obtain rfl := (List.mem_replicate.1 hx).2
    simp only [TS.parts, zeroTS, List.mem_cons, List.not_mem_nil, or_false] at hu
    rcases hu with rfl | rfl | rfl <;> exact .inl rfl
  · have key : ∀ l : List Value, (∀ u ∈ l, u.ownBlock = none) → l.Pairwise Apart := by
      intro l hl
      induction l with
      | nil => exact List.Pairwise.nil
      | cons a l ih => exact List.Pairwise.cons (fun b _ => .inl (hl a (by simp))) (ih fun u hu => hl u (by simp [hu]))
    refine key _ fun u hu => ?_
    obtain ⟨x, hx, hu⟩ := List.mem_flatMap.1 hu
    obtain rfl := (List.mem_replicate.1 hx).2
    simp only [TS.parts, zeroTS, List.mem_cons, List.not_mem_nil, or_false] at hu
    rcases hu with rfl | rfl | rfl <;> rfl
theorem OSA.alloc {lo : Nat} {w : World} {v : Value} {ts : List TS} (h : OSA lo w v ts) (o : Obj) : OSA lo (w.alloc o) v ts := h.up ((Ext.refl _).alloc _)
theorem OSA.drew {lo : Nat} {w : World} {v : Value} {ts : List TS} (h : OSA lo w v ts) : OSA lo w.drew v ts := h.up (Ext.refl _).drew
/-- make([]Slot, n). -/
theorem mkSlots_run (n : Nat) (hb : n ≤ 1000000) : ∃ cs : Array Value, (cs.size = n * 6 ∧ cs.toList = (List.replicate n zeroTS).flatMap TS.enc) ∧
    ∀ w : World, (Instr.makeSlice 26 (.int .i64 (n : Int)) (.int .i64 (n : Int))).run Try.prog w = .ok (.slice (some ⟨w.heap.size, 0, none⟩) n n) (w.alloc (.cells cs 39)) := by
  obtain ⟨i, z, hi, hz, hsize, hby, hzc⟩ := infSlot
  have hb2 : i.bytes * n ≤ 1000 * n := Nat.mul_le_mul_right n hby
  refine ⟨madeCells z.cells (n * 6), ⟨size_madeCells _ _, by rw [hzc]; exact zerosS_flat n⟩, fun w => ?_⟩
  have hb' : (i.bytes : Int) * (n : Int) ≤ 281474976710656 := by
    have h : ((i.bytes * n : Nat) : Int) ≤ 281474976710656 := by omega
    rwa [Int.natCast_mul] at h
  have hr := run_make (P := Try.prog) (w := w) 26 39 i z Try.underlying26 hi hz .i64 .i64 n n (by omega) (Int.le_refl _) hb' (by omega)
  simp only [Int.toNat_natCast, hsize] at hr
  exact hr
theorem OSA.made {lo g n : Nat} {W : World} {cs : Array Value} (hc : cs.size = n * 6 ∧ cs.toList = (List.replicate n zeroTS).flatMap TS.enc) (hn : n ≤ 1000000) (hg : g = W.heap.size) (hlo : lo ≤ W.heap.size) : OSA lo (W.alloc (.cells cs 39)) (.slice (some ⟨g, 0, none⟩) n n) (List.replicate n zeroTS) := by
  subst hg
  refine OSA.zeros ?_
  rw [← hc.2]
  exact World.ownsRow_lit W cs n hlo (by unfold maxLen; omega) hc.1
set_option maxRecDepth 100000 in
set_option maxHeartbeats 8000000 in
theorem engineOf_any (s : List Ent) (l : List Actn) (v vl : Value) (w : World) (h : SL (RF Ent.enc) 2 w v s) (hl : SL (RF Actn.enc) 4 w vl l) :
    Calls Try.prog 29 #[v, vl] w fun e w' => ∃ v0 v1 v2 v3 base acts vers ts, e = .returned (.agg #[v0, v1, v2, v3]) ∧ Up w w' ∧ OEG w.heap.size w' v0 v1 v2 v3 base acts vers ts ∧ vers = [] ∧ ts.length ≤ 10 ∧ acts.length ≤ 10 := by
  have H := Lib.hid h; have HL := Lib.hid hl
  obtain ⟨p0, c0, rfl, _, _⟩ := h.openc
  obtain ⟨p1, c1, rfl, _, _⟩ := hl.openc
  have kst := fun w h => sStoreValid_any s (.slice p0 s.length c0) w h
  have kac := fun w h => sActionsValid_any l (.slice p1 l.length c1) w h
  clear h hl
  rcases guards2 (entsOk 1 s) (actsOk l) with g1 | ⟨g1, g2⟩ | ⟨g1, g2⟩
  · rw [g1] at kst
    go_enter Try.func29, Try.ntmps29
    go_wp2_with fail
    refine (kst _ (H.out.up (by repeat (first | (with_reducible exact Ext.refl _) | (with_reducible refine Ext.up ?_ _) | (with_reducible refine Ext.alloc ?_ _) | (with_reducible refine Ext.drew ?_) | (with_reducible refine Ext.setRow ?_ (by first | exact LeS.le | exact LeS.add _ | (simp; done) | (simp; omega)) _) | (with_reducible refine Ext.setCell ?_ (by first | exact LeS.le | exact LeS.add _ | (simp; done) | (simp; omega)) _))))).mono ?_; rintro ed w' ⟨rfl, ⟨z1, rfl⟩⟩
    go_wp2_with fail
    refine bodyPost_ret (v := .agg #[.slice none 0 0, .slice none 0 0, .slice none 0 0, .slice none 0 0]) (by simp [results, Try.results29, go_sem]) rfl ?_
    exact ⟨_, _, _, _, [], [], [], [], rfl, (.of (by repeat (first | (with_reducible exact Ext.refl _) | (with_reducible refine Ext.up ?_ _) | (with_reducible refine Ext.alloc ?_ _) | (with_reducible refine Ext.drew ?_) | (with_reducible refine Ext.setRow ?_ (by first | exact LeS.le | exact LeS.add _ | (simp; done) | (simp; omega)) _) | (with_reducible refine Ext.setCell ?_ (by first | exact LeS.le | exact LeS.add _ | (simp; done) | (simp; omega)) _)))), ⟨Own.nil _ _ _ _ _, Own.nil _ _ _ _ _, Own.nil _ _ _ _ _, OSA.nil _ _⟩, rfl, by simp, by simp⟩
  · rw [g1] at kst; rw [g2] at kac
    go_enter Try.func29, Try.ntmps29
    go_wp2_with fail
    refine (kst _ (H.out.up (by repeat (first | (with_reducible exact Ext.refl _) | (with_reducible refine Ext.up ?_ _) | (with_reducible refine Ext.alloc ?_ _) | (with_reducible refine Ext.drew ?_) | (with_reducible refine Ext.setRow ?_ (by first | exact LeS.le | exact LeS.add _ | (simp; done) | (simp; omega)) _) | (with_reducible refine Ext.setCell ?_ (by first | exact LeS.le | exact LeS.add _ | (simp; done) | (simp; omega)) _))))).mono ?_; rintro ed w' ⟨rfl, ⟨z1, rfl⟩⟩
    go_wp2_with fail
    refine (kac _ (HL.out.up (by repeat (first | (with_reducible exact Ext.refl _) | (with_reducible refine Ext.up ?_ _) | (with_reducible refine Ext.alloc ?_ _) | (with_reducible refine Ext.drew ?_) | (with_reducible refine Ext.setRow ?_ (by first | exact LeS.le | exact LeS.add _ | (simp; done) | (simp; omega)) _) | (with_reducible refine Ext.setCell ?_ (by first | exact LeS.le | exact LeS.add _ | (simp; done) | (simp; omega)) _))))).mono ?_; rintro ed w' ⟨rfl, ⟨z2, rfl⟩⟩
    go_wp2_with fail
    refine bodyPost_ret (v := .agg #[.slice none 0 0, .slice none 0 0, .slice none 0 0, .slice none 0 0]) (by simp [results, Try.results29, go_sem]) rfl ?_
    exact ⟨_, _, _, _, [], [], [], [], rfl, (.of (by repeat (first | (with_reducible exact Ext.refl _) | (with_reducible refine Ext.up ?_ _) | (with_reducible refine Ext.alloc ?_ _) | (with_reducible refine Ext.drew ?_) | (with_reducible refine Ext.setRow ?_ (by first | exact LeS.le | exact LeS.add _ | (simp; done) | (simp; omega)) _) | (with_reducible refine Ext.setCell ?_ (by first | exact LeS.le | exact LeS.add _ | (simp; done) | (simp; omega)) _)))), ⟨Own.nil _ _ _ _ _, Own.nil _ _ _ _ _, Own.nil _ _ _ _ _, OSA.nil _ _⟩, rfl, by simp, by simp⟩
  · rw [g1] at kst; rw [g2] at kac
    go_enter Try.func29, Try.ntmps29
    go_wp2_with fail
    refine (kst _ (H.out.up (by repeat (first | (with_reducible exact Ext.refl _) | (with_reducible refine Ext.up ?_ _) | (with_reducible refine Ext.alloc ?_ _) | (with_reducible refine Ext.drew ?_) | (with_reducible refine Ext.setRow ?_ (by first | exact LeS.le | exact LeS.add _ | (simp; done) | (simp; omega)) _) | (with_reducible refine Ext.setCell ?_ (by first | exact LeS.le | exact LeS.add _ | (simp; done) | (simp; omega)) _))))).mono ?_; rintro ed w' ⟨rfl, ⟨z1, rfl⟩⟩
    go_wp2_with fail
    refine (kac _ (HL.out.up (by repeat (first | (with_reducible exact Ext.refl _) | (with_reducible refine Ext.up ?_ _) | (with_reducible refine Ext.alloc ?_ _) | (with_reducible refine Ext.drew ?_) | (with_reducible refine Ext.setRow ?_ (by first | exact LeS.le | exact LeS.add _ | (simp; done) | (simp; omega)) _) | (with_reducible refine Ext.setCell ?_ (by first | exact LeS.le | exact LeS.add _ | (simp; done) | (simp; omega)) _))))).mono ?_; rintro ed w' ⟨rfl, ⟨z2, rfl⟩⟩
    have hs32 := entsOk_len g1
    have hl10 := actsOk_len g2
    obtain ⟨cs, hcs, hmk⟩ := mkSlots_run l.length (by omega)
    have HCS := Lib.hid hcs
    have hz2 : w.heap.size < z2.val.heap.size := by have a := z1.ext.size; have b := z2.ext.size; simp at a; omega
    clear g1 g2 kst kac hcs
    go_wp2_with fail
    refine wp_region_held_drew (S := (fun w' => (∀ n i, ∀ [LtS n w], w'.cell? ⟨n, i, none⟩ = World.cell? w ⟨n, i, none⟩) ∧ Ext w w')) (by kernel_rfl) ?_ (fun hHeld => ?_)
    · (try dsimp only)
      refine S_of_ext ?_
      exact (by repeat (first | (with_reducible exact Ext.refl _) | (with_reducible refine Ext.up ?_ _) | (with_reducible refine Ext.alloc ?_ _) | (with_reducible refine Ext.drew ?_) | (with_reducible refine Ext.setRow ?_ (by first | exact LeS.le | exact LeS.add _ | (simp; done) | (simp; omega)) _) | (with_reducible refine Ext.setCell ?_ (by first | exact LeS.le | exact LeS.add _ | (simp; done) | (simp; omega)) _)))
    refine wpAnyH_take (i := 1) (v := ?_) (opAt rfl) (by kernel_rfl) (by kernel_rfl) (by kernel_rfl) (fun _ _ _ h => h) (Or.inl ⟨by rfl, ?_⟩) (by assumption) ?_
    rotate_left
    · (intro w hSw; (try dsimp only at hSw); go_simp) <;> with_reducible rfl
    try simp only [Act.put, List.setIfInBounds_toArray, List.set_cons_zero, List.set_cons_succ]
    refine wpAnyH_take (i := 4) (v := ?_) (opAt rfl) (by kernel_rfl) (by kernel_rfl) (by kernel_rfl) (fun _ _ _ h => h) (Or.inl ⟨by rfl, ?_⟩) (by assumption) ?_
    rotate_left
    · (intro w hSw; (try dsimp only at hSw); go_simp) <;> with_reducible rfl
    try simp only [Act.put, List.setIfInBounds_toArray, List.set_cons_zero, List.set_cons_succ]
    refine wpAnyH_take (i := 6) (v := ?_) (opAt rfl) (by kernel_rfl) (by kernel_rfl) (by kernel_rfl) (fun _ _ _ h => h) (Or.inl ⟨by rfl, ?_⟩) (by assumption) ?_
    rotate_left
    · (intro w hSw; (try dsimp only at hSw); go_simp) <;> with_reducible rfl
    try simp only [Act.put, List.setIfInBounds_toArray, List.set_cons_zero, List.set_cons_succ]
    refine wpAnyH_take (i := 7) (v := ?_) (opAt rfl) (by kernel_rfl) (by kernel_rfl) (by kernel_rfl) (fun _ _ _ h => h) (Or.inl ⟨by rfl, ?_⟩) (by assumption) ?_
    rotate_left
    · (intro w hSw; (try dsimp only at hSw); go_simp) <;> with_reducible rfl
    try simp only [Act.put, List.setIfInBounds_toArray, List.set_cons_zero, List.set_cons_succ]
    refine wpAnyH_ready (rs := [0, 3, 8]) (by kernel_rfl) (by simp) ?_
    refine AllReadyH.cons (opAt rfl) (fun K hK => ?_) ?_
    · go_simp
      refine hK.out _ _ ?_ (fun hHeld1 => ?_)
      · (try dsimp only)
        refine S_of_ext ?_
        exact (by repeat (first | (with_reducible exact Ext.refl _) | (with_reducible refine Ext.up ?_ _) | (with_reducible refine Ext.alloc ?_ _) | (with_reducible refine Ext.drew ?_) | (with_reducible refine Ext.setRow ?_ (by first | exact LeS.le | exact LeS.add _ | (simp; done) | (simp; omega)) _) | (with_reducible refine Ext.setCell ?_ (by first | exact LeS.le | exact LeS.add _ | (simp; done) | (simp; omega)) _)))
      clear hK K hHeld
      have hHeld := hHeld1; clear hHeld1
      try simp only [Act.put, List.setIfInBounds_toArray, List.set_cons_zero, List.set_cons_succ]
      refine wpAnyH_ready (rs := [2, 3, 8]) (by kernel_rfl) (by simp) ?_
      refine AllReadyH.cons (opAt rfl) (fun K hK => ?_) ?_
      · refine step_clone fEnt Ent.enc Ent.enc_length (lo := z2.val.heap.size) s (by rfl) (.tmp 14) (.tmp 15) (by rfl) (by rfl) (by rfl) (by repeat (first | (with_reducible exact heap_alloc_new _ _) | (refine heap_alloc_at ?_; simp; done) | (with_reducible refine (Extd.row _ _).trans ?_) | (with_reducible refine (heap_alloc_old _ _ LtS.lt).trans ?_) | (with_reducible refine (drew_row _ _).trans ?_) | (with_reducible refine (heap_alloc_old _ _ (by omega)).trans ?_) | (with_reducible refine (Extd.row_lt _ (by omega)).trans ?_))) (by first | exact LeS.le | omega | (simp; done) | (simp; omega) | (have := z3.ext.size; simp at this; omega)) (H.out.up (by repeat (first | (with_reducible exact Ext.refl _) | (with_reducible refine Ext.up ?_ _) | (with_reducible refine Ext.alloc ?_ _) | (with_reducible refine Ext.drew ?_) | (with_reducible refine Ext.setRow ?_ (by first | exact LeS.le | exact LeS.add _ | (simp; done) | (simp; omega)) _) | (with_reducible refine Ext.setCell ?_ (by first | exact LeS.le | exact LeS.add _ | (simp; done) | (simp; omega)) _)))) (oneEs' _) (by omega) (by omega) ?_
        intro v3 z3 o3 b3
        obtain ⟨q3, d3, hv3, _, _⟩ := (o3.sl Ent.enc_length).openc
        subst hv3
        refine hK.out _ _ ?_ (fun hHeld1 => ?_)
        · (try dsimp only)
          refine S_of_ext ?_
          exact (by repeat (first | (with_reducible exact Ext.refl _) | (with_reducible refine Ext.up ?_ _) | (with_reducible refine Ext.alloc ?_ _) | (with_reducible refine Ext.drew ?_) | (with_reducible refine Ext.setRow ?_ (by first | exact LeS.le | exact LeS.add _ | (simp; done) | (simp; omega)) _) | (with_reducible refine Ext.setCell ?_ (by first | exact LeS.le | exact LeS.add _ | (simp; done) | (simp; omega)) _)))
        clear hK K hHeld
        have hHeld := hHeld1; clear hHeld1
        try simp only [Act.put, List.setIfInBounds_toArray, List.set_cons_zero, List.set_cons_succ]
        refine wpAnyH_ready (rs := [3, 8]) (by kernel_rfl) (by simp) ?_
        refine AllReadyH.cons (opAt rfl) (fun K hK => ?_) ?_
        · go_simp
          refine hK.out _ _ ?_ (fun hHeld1 => ?_)
          · (try dsimp only)
            refine S_of_ext ?_
            exact (by repeat (first | (with_reducible exact Ext.refl _) | (with_reducible refine Ext.up ?_ _) | (with_reducible refine Ext.alloc ?_ _) | (with_reducible refine Ext.drew ?_) | (with_reducible refine Ext.setRow ?_ (by first | exact LeS.le | exact LeS.add _ | (simp; done) | (simp; omega)) _) | (with_reducible refine Ext.setCell ?_ (by first | exact LeS.le | exact LeS.add _ | (simp; done) | (simp; omega)) _)))
          clear hK K hHeld
          have hHeld := hHeld1; clear hHeld1
          try simp only [Act.put, List.setIfInBounds_toArray, List.set_cons_zero, List.set_cons_succ]
          refine wpAnyH_ready (rs := [5, 8]) (by kernel_rfl) (by simp) ?_
          refine AllReadyH.cons (opAt rfl) (fun K hK => ?_) ?_
          · refine step_clone fActn Actn.enc Actn.enc_length (lo := z2.val.heap.size) l (by rfl) (.tmp 17) (.tmp 18) (by rfl) (by rfl) (by rfl) (by repeat (first | (with_reducible exact heap_alloc_new _ _) | (refine heap_alloc_at ?_; simp; done) | (with_reducible refine (Extd.row _ _).trans ?_) | (with_reducible refine (heap_alloc_old _ _ LtS.lt).trans ?_) | (with_reducible refine (drew_row _ _).trans ?_) | (with_reducible refine (heap_alloc_old _ _ (by omega)).trans ?_) | (with_reducible refine (Extd.row_lt _ (by omega)).trans ?_))) (by first | exact LeS.le | omega | (simp; done) | (simp; omega) | (have := z3.ext.size; simp at this; omega)) (HL.out.up (by repeat (first | (with_reducible exact Ext.refl _) | (with_reducible refine Ext.up ?_ _) | (with_reducible refine Ext.alloc ?_ _) | (with_reducible refine Ext.drew ?_) | (with_reducible refine Ext.setRow ?_ (by first | exact LeS.le | exact LeS.add _ | (simp; done) | (simp; omega)) _) | (with_reducible refine Ext.setCell ?_ (by first | exact LeS.le | exact LeS.add _ | (simp; done) | (simp; omega)) _)))) (oneAs _) (by omega) (by omega) ?_
            intro v4 z4 o4 b4
            obtain ⟨q4, d4, hv4, _, _⟩ := (o4.sl Actn.enc_length).openc
            subst hv4
            refine hK.out _ _ ?_ (fun hHeld1 => ?_)
            · (try dsimp only)
              refine S_of_ext ?_
              exact (by repeat (first | (with_reducible exact Ext.refl _) | (with_reducible refine Ext.up ?_ _) | (with_reducible refine Ext.alloc ?_ _) | (with_reducible refine Ext.drew ?_) | (with_reducible refine Ext.setRow ?_ (by first | exact LeS.le | exact LeS.add _ | (simp; done) | (simp; omega)) _) | (with_reducible refine Ext.setCell ?_ (by first | exact LeS.le | exact LeS.add _ | (simp; done) | (simp; omega)) _)))
            clear hK K hHeld
            have hHeld := hHeld1; clear hHeld1
            try simp only [Act.put, List.setIfInBounds_toArray, List.set_cons_zero, List.set_cons_succ]
            refine wpAnyH_ready (rs := [8]) (by kernel_rfl) (by simp) ?_
            refine AllReadyH.cons (opAt rfl) (fun K hK => ?_) ?_
            · go_simp
              refine hK.out _ _ ?_ (fun hHeld1 => ?_)
              · (try dsimp only)
                refine S_of_ext ?_
                exact (by repeat (first | (with_reducible exact Ext.refl _) | (with_reducible refine Ext.up ?_ _) | (with_reducible refine Ext.alloc ?_ _) | (with_reducible refine Ext.drew ?_) | (with_reducible refine Ext.setRow ?_ (by first | exact LeS.le | exact LeS.add _ | (simp; done) | (simp; omega)) _) | (with_reducible refine Ext.setCell ?_ (by first | exact LeS.le | exact LeS.add _ | (simp; done) | (simp; omega)) _)))
              clear hK K hHeld
              have hHeld := hHeld1; clear hHeld1
              try simp only [Act.put, List.setIfInBounds_toArray, List.set_cons_zero, List.set_cons_succ]
              refine wpAnyH_take (i := 9) (v := ?_) (opAt rfl) (by kernel_rfl) (by kernel_rfl) (by kernel_rfl) (fun _ _ _ h => h) (Or.inl ⟨by rfl, ?_⟩) (by assumption) ?_
              rotate_left
              · (intro w hSw; (try dsimp only at hSw); go_simp) <;> with_reducible rfl
              try simp only [Act.put, List.setIfInBounds_toArray, List.set_cons_zero, List.set_cons_succ]
              refine wpAnyH_ready (rs := [10]) (by kernel_rfl) (by simp) ?_
              refine AllReadyH.cons (opAt rfl) (fun K hK => ?_) ?_
              · go_simp
                refine hK.out _ _ ?_ (fun hHeld1 => ?_)
                · (try dsimp only)
                  refine S_of_ext ?_
                  exact (by repeat (first | (with_reducible exact Ext.refl _) | (with_reducible refine Ext.up ?_ _) | (with_reducible refine Ext.alloc ?_ _) | (with_reducible refine Ext.drew ?_) | (with_reducible refine Ext.setRow ?_ (by first | exact LeS.le | exact LeS.add _ | (simp; done) | (simp; omega)) _) | (with_reducible refine Ext.setCell ?_ (by first | exact LeS.le | exact LeS.add _ | (simp; done) | (simp; omega)) _)))
                clear hK K hHeld
                have hHeld := hHeld1; clear hHeld1
                try simp only [Act.put, List.setIfInBounds_toArray, List.set_cons_zero, List.set_cons_succ]
                refine wpAnyH_done (by kernel_rfl) ?_ _
                clear hmk
                go_wp2_with fail
                refine bodyPost_ret (v := .agg #[.slice q3 s.length d3, .slice q4 l.length d4, .slice none 0 0, .slice (some ⟨z4.val.heap.size, 0, none⟩) l.length l.length]) (by simp [results, Try.results29, go_sem]) rfl ?_
                have h3 := z3.ext.size
                have h4 := z4.ext.size
                simp at h3 h4
                refine ⟨_, _, _, _, s, l, [], List.replicate l.length zeroTS, rfl, (.of (by repeat (first | (with_reducible exact Ext.refl _) | (with_reducible refine Ext.up ?_ _) | (with_reducible refine Ext.alloc ?_ _) | (with_reducible refine Ext.drew ?_) | (with_reducible refine Ext.setRow ?_ (by first | exact LeS.le | exact LeS.add _ | (simp; done) | (simp; omega)) _) | (with_reducible refine Ext.setCell ?_ (by first | exact LeS.le | exact LeS.add _ | (simp; done) | (simp; omega)) _)))), ⟨Own.lo (lo := z2.val.heap.size) ?_ (by omega), Own.lo (lo := z2.val.heap.size) ?_ (by omega), Own.nil _ _ _ _ _, OSA.lo (lo := z2.val.heap.size) ?_ (by omega)⟩, rfl, by rw [List.length_replicate]; omega, by omega⟩
                · repeat (first | (with_reducible exact o3) | (with_reducible refine Own.setOld ?_ _ _ (by dsimp only; omega)) | (with_reducible refine Own.up ?_ (Extd.ext _)) | (with_reducible refine Own.alloc ?_))
                · repeat (first | (with_reducible exact o4) | (with_reducible refine Own.setOld ?_ _ _ (by dsimp only; omega)) | (with_reducible refine Own.up ?_ (Extd.ext _)) | (with_reducible refine Own.alloc ?_))
                · repeat (first | (with_reducible exact OSA.made HCS.out (by omega) (by simp) (by first | exact Nat.le_refl _ | (simp; done) | (simp; omega) | omega)) | (with_reducible refine OSA.setOld ?_ _ _ (by dsimp only; omega)) | (with_reducible refine OSA.alloc ?_ _) | (with_reducible refine OSA.drew ?_) | (with_reducible refine OSA.up ?_ (Extd.ext _)))
              exact AllReadyH.nil
            exact AllReadyH.nil
          refine AllReadyH.cons (opAt rfl) (fun K hK => ?_) ?_
          · go_simp
            refine hK.out _ _ ?_ (fun hHeld1 => ?_)
            · (try dsimp only)
              refine S_of_ext ?_
              exact (by repeat (first | (with_reducible exact Ext.refl _) | (with_reducible refine Ext.up ?_ _) | (with_reducible refine Ext.alloc ?_ _) | (with_reducible refine Ext.drew ?_) | (with_reducible refine Ext.setRow ?_ (by first | exact LeS.le | exact LeS.add _ | (simp; done) | (simp; omega)) _) | (with_reducible refine Ext.setCell ?_ (by first | exact LeS.le | exact LeS.add _ | (simp; done) | (simp; omega)) _)))
            clear hK K hHeld
            have hHeld := hHeld1; clear hHeld1
            try simp only [Act.put, List.setIfInBounds_toArray, List.set_cons_zero, List.set_cons_succ]
            refine wpAnyH_ready (rs := [5]) (by kernel_rfl) (by simp) ?_
            refine AllReadyH.cons (opAt rfl) (fun K hK => ?_) ?_
            · refine step_clone fActn Actn.enc Actn.enc_length (lo := z2.val.heap.size) l (by rfl) (.tmp 17) (.tmp 18) (by rfl) (by rfl) (by rfl) (by repeat (first | (with_reducible exact heap_alloc_new _ _) | (refine heap_alloc_at ?_; simp; done) | (with_reducible refine (Extd.row _ _).trans ?_) | (with_reducible refine (heap_alloc_old _ _ LtS.lt).trans ?_) | (with_reducible refine (drew_row _ _).trans ?_) | (with_reducible refine (heap_alloc_old _ _ (by omega)).trans ?_) | (with_reducible refine (Extd.row_lt _ (by omega)).trans ?_))) (by first | exact LeS.le | omega | (simp; done) | (simp; omega) | (have := z3.ext.size; simp at this; omega)) (HL.out.up (by repeat (first | (with_reducible exact Ext.refl _) | (with_reducible refine Ext.up ?_ _) | (with_reducible refine Ext.alloc ?_ _) | (with_reducible refine Ext.drew ?_) | (with_reducible refine Ext.setRow ?_ (by first | exact LeS.le | exact LeS.add _ | (simp; done) | (simp; omega)) _) | (with_reducible refine Ext.setCell ?_ (by first | exact LeS.le | exact LeS.add _ | (simp; done) | (simp; omega)) _)))) (oneAs _) (by omega) (by omega) ?_
              intro v4 z4 o4 b4
              obtain ⟨q4, d4, hv4, _, _⟩ := (o4.sl Actn.enc_length).openc
              subst hv4
              refine hK.out _ _ ?_ (fun hHeld1 => ?_)
              · (try dsimp only)
                refine S_of_ext ?_
                exact (by repeat (first | (with_reducible exact Ext.refl _) | (with_reducible refine Ext.up ?_ _) | (with_reducible refine Ext.alloc ?_ _) | (with_reducible refine Ext.drew ?_) | (with_reducible refine Ext.setRow ?_ (by first | exact LeS.le | exact LeS.add _ | (simp; done) | (simp; omega)) _) | (with_reducible refine Ext.setCell ?_ (by first | exact LeS.le | exact LeS.add _ | (simp; done) | (simp; omega)) _)))
              clear hK K hHeld
              have hHeld := hHeld1; clear hHeld1
              try simp only [Act.put, List.setIfInBounds_toArray, List.set_cons_zero, List.set_cons_succ]
              refine wpAnyH_take (i := 9) (v := ?_) (opAt rfl) (by kernel_rfl) (by kernel_rfl) (by kernel_rfl) (fun _ _ _ h => h) (Or.inl ⟨by rfl, ?_⟩) (by assumption) ?_
              rotate_left
              · (intro w hSw; (try dsimp only at hSw); go_simp) <;> with_reducible rfl
              try simp only [Act.put, List.setIfInBounds_toArray, List.set_cons_zero, List.set_cons_succ]
              refine wpAnyH_ready (rs := [10]) (by kernel_rfl) (by simp) ?_
              refine AllReadyH.cons (opAt rfl) (fun K hK => ?_) ?_
              · go_simp
                refine hK.out _ _ ?_ (fun hHeld1 => ?_)
                · (try dsimp only)
                  refine S_of_ext ?_
                  exact (by repeat (first | (with_reducible exact Ext.refl _) | (with_reducible refine Ext.up ?_ _) | (with_reducible refine Ext.alloc ?_ _) | (with_reducible refine Ext.drew ?_) | (with_reducible refine Ext.setRow ?_ (by first | exact LeS.le | exact LeS.add _ | (simp; done) | (simp; omega)) _) | (with_reducible refine Ext.setCell ?_ (by first | exact LeS.le | exact LeS.add _ | (simp; done) | (simp; omega)) _)))
                clear hK K hHeld
                have hHeld := hHeld1; clear hHeld1
                try simp only [Act.put, List.setIfInBounds_toArray, List.set_cons_zero, List.set_cons_succ]
                refine wpAnyH_done (by kernel_rfl) ?_ _
                clear hmk
                go_wp2_with fail
                refine bodyPost_ret (v := .agg #[.slice q3 s.length d3, .slice q4 l.length d4, .slice none 0 0, .slice (some ⟨z3.val.heap.size + 1, 0, none⟩) l.length l.length]) (by simp [results, Try.results29, go_sem]) rfl ?_
                have h3 := z3.ext.size
                have h4 := z4.ext.size
                simp at h3 h4
                refine ⟨_, _, _, _, s, l, [], List.replicate l.length zeroTS, rfl, (.of (by repeat (first | (with_reducible exact Ext.refl _) | (with_reducible refine Ext.up ?_ _) | (with_reducible refine Ext.alloc ?_ _) | (with_reducible refine Ext.drew ?_) | (with_reducible refine Ext.setRow ?_ (by first | exact LeS.le | exact LeS.add _ | (simp; done) | (simp; omega)) _) | (with_reducible refine Ext.setCell ?_ (by first | exact LeS.le | exact LeS.add _ | (simp; done) | (simp; omega)) _)))), ⟨Own.lo (lo := z2.val.heap.size) ?_ (by omega), Own.lo (lo := z2.val.heap.size) ?_ (by omega), Own.nil _ _ _ _ _, OSA.lo (lo := z2.val.heap.size) ?_ (by omega)⟩, rfl, by rw [List.length_replicate]; omega, by omega⟩
                · repeat (first | (with_reducible exact o3) | (with_reducible refine Own.setOld ?_ _ _ (by dsimp only; omega)) | (with_reducible refine Own.up ?_ (Extd.ext _)) | (with_reducible refine Own.alloc ?_))
                · repeat (first | (with_reducible exact o4) | (with_reducible refine Own.setOld ?_ _ _ (by dsimp only; omega)) | (with_reducible refine Own.up ?_ (Extd.ext _)) | (with_reducible refine Own.alloc ?_))
                · repeat (first | (with_reducible exact OSA.made HCS.out (by omega) (by simp) (by first | exact Nat.le_refl _ | (simp; done) | (simp; omega) | omega)) | (with_reducible refine OSA.setOld ?_ _ _ (by dsimp only; omega)) | (with_reducible refine OSA.alloc ?_ _) | (with_reducible refine OSA.drew ?_) | (with_reducible refine OSA.up ?_ (Extd.ext _)))
              exact AllReadyH.nil
            exact AllReadyH.nil
          exact AllReadyH.nil
        refine AllReadyH.cons (opAt rfl) (fun K hK => ?_) ?_
        · go_simp
          refine hK.out _ _ ?_ (fun hHeld1 => ?_)
          · (try dsimp only)
            refine S_of_ext ?_
            exact (by repeat (first | (with_reducible exact Ext.refl _) | (with_reducible refine Ext.up ?_ _) | (with_reducible refine Ext.alloc ?_ _) | (with_reducible refine Ext.drew ?_) | (with_reducible refine Ext.setRow ?_ (by first | exact LeS.le | exact LeS.add _ | (simp; done) | (simp; omega)) _) | (with_reducible refine Ext.setCell ?_ (by first | exact LeS.le | exact LeS.add _ | (simp; done) | (simp; omega)) _)))
          clear hK K hHeld
          have hHeld := hHeld1; clear hHeld1
          try simp only [Act.put, List.setIfInBounds_toArray, List.set_cons_zero, List.set_cons_succ]
          refine wpAnyH_ready (rs := [3]) (by kernel_rfl) (by simp) ?_
          refine AllReadyH.cons (opAt rfl) (fun K hK => ?_) ?_
          · go_simp
            refine hK.out _ _ ?_ (fun hHeld1 => ?_)
            · (try dsimp only)
              refine S_of_ext ?_
              exact (by repeat (first | (with_reducible exact Ext.refl _) | (with_reducible refine Ext.up ?_ _) | (with_reducible refine Ext.alloc ?_ _) | (with_reducible refine Ext.drew ?_) | (with_reducible refine Ext.setRow ?_ (by first | exact LeS.le | exact LeS.add _ | (simp; done) | (simp; omega)) _) | (with_reducible refine Ext.setCell ?_ (by first | exact LeS.le | exact LeS.add _ | (simp; done) | (simp; omega)) _)))
            clear hK K hHeld
            have hHeld := hHeld1; clear hHeld1
            try simp only [Act.put, List.setIfInBounds_toArray, List.set_cons_zero, List.set_cons_succ]
            refine wpAnyH_ready (rs := [5]) (by kernel_rfl) (by simp) ?_
            refine AllReadyH.cons (opAt rfl) (fun K hK => ?_) ?_
            · refine step_clone fActn Actn.enc Actn.enc_length (lo := z2.val.heap.size) l (by rfl) (.tmp 17) (.tmp 18) (by rfl) (by rfl) (by rfl) (by repeat (first | (with_reducible exact heap_alloc_new _ _) | (refine heap_alloc_at ?_; simp; done) | (with_reducible refine (Extd.row _ _).trans ?_) | (with_reducible refine (heap_alloc_old _ _ LtS.lt).trans ?_) | (with_reducible refine (drew_row _ _).trans ?_) | (with_reducible refine (heap_alloc_old _ _ (by omega)).trans ?_) | (with_reducible refine (Extd.row_lt _ (by omega)).trans ?_))) (by first | exact LeS.le | omega | (simp; done) | (simp; omega) | (have := z3.ext.size; simp at this; omega)) (HL.out.up (by repeat (first | (with_reducible exact Ext.refl _) | (with_reducible refine Ext.up ?_ _) | (with_reducible refine Ext.alloc ?_ _) | (with_reducible refine Ext.drew ?_) | (with_reducible refine Ext.setRow ?_ (by first | exact LeS.le | exact LeS.add _ | (simp; done) | (simp; omega)) _) | (with_reducible refine Ext.setCell ?_ (by first | exact LeS.le | exact LeS.add _ | (simp; done) | (simp; omega)) _)))) (oneAs _) (by omega) (by omega) ?_
              intro v4 z4 o4 b4
              obtain ⟨q4, d4, hv4, _, _⟩ := (o4.sl Actn.enc_length).openc
              subst hv4
              refine hK.out _ _ ?_ (fun hHeld1 => ?_)
              · (try dsimp only)
                refine S_of_ext ?_
                exact (by repeat (first | (with_reducible exact Ext.refl _) | (with_reducible refine Ext.up ?_ _) | (with_reducible refine Ext.alloc ?_ _) | (with_reducible refine Ext.drew ?_) | (with_reducible refine Ext.setRow ?_ (by first | exact LeS.le | exact LeS.add _ | (simp; done) | (simp; omega)) _) | (with_reducible refine Ext.setCell ?_ (by first | exact LeS.le | exact LeS.add _ | (simp; done) | (simp; omega)) _)))
              clear hK K hHeld
              have hHeld := hHeld1; clear hHeld1
              try simp only [Act.put, List.setIfInBounds_toArray, List.set_cons_zero, List.set_cons_succ]
              refine wpAnyH_take (i := 9) (v := ?_) (opAt rfl) (by kernel_rfl) (by kernel_rfl) (by kernel_rfl) (fun _ _ _ h => h) (Or.inl ⟨by rfl, ?_⟩) (by assumption) ?_
              rotate_left
              · (intro w hSw; (try dsimp only at hSw); go_simp) <;> with_reducible rfl
              try simp only [Act.put, List.setIfInBounds_toArray, List.set_cons_zero, List.set_cons_succ]
              refine wpAnyH_ready (rs := [10]) (by kernel_rfl) (by simp) ?_
              refine AllReadyH.cons (opAt rfl) (fun K hK => ?_) ?_
              · go_simp
                refine hK.out _ _ ?_ (fun hHeld1 => ?_)
                · (try dsimp only)
                  refine S_of_ext ?_
                  exact (by repeat (first | (with_reducible exact Ext.refl _) | (with_reducible refine Ext.up ?_ _) | (with_reducible refine Ext.alloc ?_ _) | (with_reducible refine Ext.drew ?_) | (with_reducible refine Ext.setRow ?_ (by first | exact LeS.le | exact LeS.add _ | (simp; done) | (simp; omega)) _) | (with_reducible refine Ext.setCell ?_ (by first | exact LeS.le | exact LeS.add _ | (simp; done) | (simp; omega)) _)))
                clear hK K hHeld
                have hHeld := hHeld1; clear hHeld1
                try simp only [Act.put, List.setIfInBounds_toArray, List.set_cons_zero, List.set_cons_succ]
                refine wpAnyH_done (by kernel_rfl) ?_ _
                clear hmk
                go_wp2_with fail
                refine bodyPost_ret (v := .agg #[.slice q3 s.length d3, .slice q4 l.length d4, .slice none 0 0, .slice (some ⟨z3.val.heap.size, 0, none⟩) l.length l.length]) (by simp [results, Try.results29, go_sem]) rfl ?_
                have h3 := z3.ext.size
                have h4 := z4.ext.size
                simp at h3 h4
                refine ⟨_, _, _, _, s, l, [], List.replicate l.length zeroTS, rfl, (.of (by repeat (first | (with_reducible exact Ext.refl _) | (with_reducible refine Ext.up ?_ _) | (with_reducible refine Ext.alloc ?_ _) | (with_reducible refine Ext.drew ?_) | (with_reducible refine Ext.setRow ?_ (by first | exact LeS.le | exact LeS.add _ | (simp; done) | (simp; omega)) _) | (with_reducible refine Ext.setCell ?_ (by first | exact LeS.le | exact LeS.add _ | (simp; done) | (simp; omega)) _)))), ⟨Own.lo (lo := z2.val.heap.size) ?_ (by omega), Own.lo (lo := z2.val.heap.size) ?_ (by omega), Own.nil _ _ _ _ _, OSA.lo (lo := z2.val.heap.size) ?_ (by omega)⟩, rfl, by rw [List.length_replicate]; omega, by omega⟩
                · repeat (first | (with_reducible exact o3) | (with_reducible refine Own.setOld ?_ _ _ (by dsimp only; omega)) | (with_reducible refine Own.up ?_ (Extd.ext _)) | (with_reducible refine Own.alloc ?_))
                · repeat (first | (with_reducible exact o4) | (with_reducible refine Own.setOld ?_ _ _ (by dsimp only; omega)) | (with_reducible refine Own.up ?_ (Extd.ext _)) | (with_reducible refine Own.alloc ?_))
                · repeat (first | (with_reducible exact OSA.made HCS.out (by omega) (by simp) (by first | exact Nat.le_refl _ | (simp; done) | (simp; omega) | omega)) | (with_reducible refine OSA.setOld ?_ _ _ (by dsimp only; omega)) | (with_reducible refine OSA.alloc ?_ _) | (with_reducible refine OSA.drew ?_) | (with_reducible refine OSA.up ?_ (Extd.ext _)))
              exact AllReadyH.nil
            exact AllReadyH.nil
          exact AllReadyH.nil
        exact AllReadyH.nil
      refine AllReadyH.cons (opAt rfl) (fun K hK => ?_) ?_
      · go_simp
        refine hK.out _ _ ?_ (fun hHeld1 => ?_)
        · (try dsimp only)
          refine S_of_ext ?_
          exact (by repeat (first | (with_reducible exact Ext.refl _) | (with_reducible refine Ext.up ?_ _) | (with_reducible refine Ext.alloc ?_ _) | (with_reducible refine Ext.drew ?_) | (with_reducible refine Ext.setRow ?_ (by first | exact LeS.le | exact LeS.add _ | (simp; done) | (simp; omega)) _) | (with_reducible refine Ext.setCell ?_ (by first | exact LeS.le | exact LeS.add _ | (simp; done) | (simp; omega)) _)))
        clear hK K hHeld
        have hHeld := hHeld1; clear hHeld1
        try simp only [Act.put, List.setIfInBounds_toArray, List.set_cons_zero, List.set_cons_succ]
        refine wpAnyH_ready (rs := [2, 8]) (by kernel_rfl) (by simp) ?_
        refine AllReadyH.cons (opAt rfl) (fun K hK => ?_) ?_
        · refine step_clone fEnt Ent.enc Ent.enc_length (lo := z2.val.heap.size) s (by rfl) (.tmp 14) (.tmp 15) (by rfl) (by rfl) (by rfl) (by repeat (first | (with_reducible exact heap_alloc_new _ _) | (refine heap_alloc_at ?_; simp; done) | (with_reducible refine (Extd.row _ _).trans ?_) | (with_reducible refine (heap_alloc_old _ _ LtS.lt).trans ?_) | (with_reducible refine (drew_row _ _).trans ?_) | (with_reducible refine (heap_alloc_old _ _ (by omega)).trans ?_) | (with_reducible refine (Extd.row_lt _ (by omega)).trans ?_))) (by first | exact LeS.le | omega | (simp; done) | (simp; omega) | (have := z3.ext.size; simp at this; omega)) (H.out.up (by repeat (first | (with_reducible exact Ext.refl _) | (with_reducible refine Ext.up ?_ _) | (with_reducible refine Ext.alloc ?_ _) | (with_reducible refine Ext.drew ?_) | (with_reducible refine Ext.setRow ?_ (by first | exact LeS.le | exact LeS.add _ | (simp; done) | (simp; omega)) _) | (with_reducible refine Ext.setCell ?_ (by first | exact LeS.le | exact LeS.add _ | (simp; done) | (simp; omega)) _)))) (oneEs' _) (by omega) (by omega) ?_
          intro v3 z3 o3 b3
          obtain ⟨q3, d3, hv3, _, _⟩ := (o3.sl Ent.enc_length).openc
          subst hv3
          refine hK.out _ _ ?_ (fun hHeld1 => ?_)
          · (try dsimp only)
            refine S_of_ext ?_
            exact (by repeat (first | (with_reducible exact Ext.refl _) | (with_reducible refine Ext.up ?_ _) | (with_reducible refine Ext.alloc ?_ _) | (with_reducible refine Ext.drew ?_) | (with_reducible refine Ext.setRow ?_ (by first | exact LeS.le | exact LeS.add _ | (simp; done) | (simp; omega)) _) | (with_reducible refine Ext.setCell ?_ (by first | exact LeS.le | exact LeS.add _ | (simp; done) | (simp; omega)) _)))
          clear hK K hHeld
          have hHeld := hHeld1; clear hHeld1
          try simp only [Act.put, List.setIfInBounds_toArray, List.set_cons_zero, List.set_cons_succ]
          refine wpAnyH_ready (rs := [5, 8]) (by kernel_rfl) (by simp) ?_
          refine AllReadyH.cons (opAt rfl) (fun K hK => ?_) ?_
          · refine step_clone fActn Actn.enc Actn.enc_length (lo := z2.val.heap.size) l (by rfl) (.tmp 17) (.tmp 18) (by rfl) (by rfl) (by rfl) (by repeat (first | (with_reducible exact heap_alloc_new _ _) | (refine heap_alloc_at ?_; simp; done) | (with_reducible refine (Extd.row _ _).trans ?_) | (with_reducible refine (heap_alloc_old _ _ LtS.lt).trans ?_) | (with_reducible refine (drew_row _ _).trans ?_) | (with_reducible refine (heap_alloc_old _ _ (by omega)).trans ?_) | (with_reducible refine (Extd.row_lt _ (by omega)).trans ?_))) (by first | exact LeS.le | omega | (simp; done) | (simp; omega) | (have := z3.ext.size; simp at this; omega)) (HL.out.up (by repeat (first | (with_reducible exact Ext.refl _) | (with_reducible refine Ext.up ?_ _) | (with_reducible refine Ext.alloc ?_ _) | (with_reducible refine Ext.drew ?_) | (with_reducible refine Ext.setRow ?_ (by first | exact LeS.le | exact LeS.add _ | (simp; done) | (simp; omega)) _) | (with_reducible refine Ext.setCell ?_ (by first | exact LeS.le | exact LeS.add _ | (simp; done) | (simp; omega)) _)))) (oneAs _) (by omega) (by omega) ?_
            intro v4 z4 o4 b4
            obtain ⟨q4, d4, hv4, _, _⟩ := (o4.sl Actn.enc_length).openc
            subst hv4
            refine hK.out _ _ ?_ (fun hHeld1 => ?_)
            · (try dsimp only)
              refine S_of_ext ?_
              exact (by repeat (first | (with_reducible exact Ext.refl _) | (with_reducible refine Ext.up ?_ _) | (with_reducible refine Ext.alloc ?_ _) | (with_reducible refine Ext.drew ?_) | (with_reducible refine Ext.setRow ?_ (by first | exact LeS.le | exact LeS.add _ | (simp; done) | (simp; omega)) _) | (with_reducible refine Ext.setCell ?_ (by first | exact LeS.le | exact LeS.add _ | (simp; done) | (simp; omega)) _)))
            clear hK K hHeld
            have hHeld := hHeld1; clear hHeld1
            try simp only [Act.put, List.setIfInBounds_toArray, List.set_cons_zero, List.set_cons_succ]
            refine wpAnyH_ready (rs := [8]) (by kernel_rfl) (by simp) ?_
            refine AllReadyH.cons (opAt rfl) (fun K hK => ?_) ?_
            · go_simp
              refine hK.out _ _ ?_ (fun hHeld1 => ?_)
              · (try dsimp only)
                refine S_of_ext ?_
                exact (by repeat (first | (with_reducible exact Ext.refl _) | (with_reducible refine Ext.up ?_ _) | (with_reducible refine Ext.alloc ?_ _) | (with_reducible refine Ext.drew ?_) | (with_reducible refine Ext.setRow ?_ (by first | exact LeS.le | exact LeS.add _ | (simp; done) | (simp; omega)) _) | (with_reducible refine Ext.setCell ?_ (by first | exact LeS.le | exact LeS.add _ | (simp; done) | (simp; omega)) _)))
              clear hK K hHeld
              have hHeld := hHeld1; clear hHeld1
              try simp only [Act.put, List.setIfInBounds_toArray, List.set_cons_zero, List.set_cons_succ]
              refine wpAnyH_take (i := 9) (v := ?_) (opAt rfl) (by kernel_rfl) (by kernel_rfl) (by kernel_rfl) (fun _ _ _ h => h) (Or.inl ⟨by rfl, ?_⟩) (by assumption) ?_
              rotate_left
              · (intro w hSw; (try dsimp only at hSw); go_simp) <;> with_reducible rfl
              try simp only [Act.put, List.setIfInBounds_toArray, List.set_cons_zero, List.set_cons_succ]
              refine wpAnyH_ready (rs := [10]) (by kernel_rfl) (by simp) ?_
              refine AllReadyH.cons (opAt rfl) (fun K hK => ?_) ?_
              · go_simp
                refine hK.out _ _ ?_ (fun hHeld1 => ?_)
                · (try dsimp only)
                  refine S_of_ext ?_
                  exact (by repeat (first | (with_reducible exact Ext.refl _) | (with_reducible refine Ext.up ?_ _) | (with_reducible refine Ext.alloc ?_ _) | (with_reducible refine Ext.drew ?_) | (with_reducible refine Ext.setRow ?_ (by first | exact LeS.le | exact LeS.add _ | (simp; done) | (simp; omega)) _) | (with_reducible refine Ext.setCell ?_ (by first | exact LeS.le | exact LeS.add _ | (simp; done) | (simp; omega)) _)))
                clear hK K hHeld
                have hHeld := hHeld1; clear hHeld1
                try simp only [Act.put, List.setIfInBounds_toArray, List.set_cons_zero, List.set_cons_succ]
                refine wpAnyH_done (by kernel_rfl) ?_ _
                clear hmk
                go_wp2_with fail
                refine bodyPost_ret (v := .agg #[.slice q3 s.length d3, .slice q4 l.length d4, .slice none 0 0, .slice (some ⟨z4.val.heap.size, 0, none⟩) l.length l.length]) (by simp [results, Try.results29, go_sem]) rfl ?_
                have h3 := z3.ext.size
                have h4 := z4.ext.size
                simp at h3 h4
                refine ⟨_, _, _, _, s, l, [], List.replicate l.length zeroTS, rfl, (.of (by repeat (first | (with_reducible exact Ext.refl _) | (with_reducible refine Ext.up ?_ _) | (with_reducible refine Ext.alloc ?_ _) | (with_reducible refine Ext.drew ?_) | (with_reducible refine Ext.setRow ?_ (by first | exact LeS.le | exact LeS.add _ | (simp; done) | (simp; omega)) _) | (with_reducible refine Ext.setCell ?_ (by first | exact LeS.le | exact LeS.add _ | (simp; done) | (simp; omega)) _)))), ⟨Own.lo (lo := z2.val.heap.size) ?_ (by omega), Own.lo (lo := z2.val.heap.size) ?_ (by omega), Own.nil _ _ _ _ _, OSA.lo (lo := z2.val.heap.size) ?_ (by omega)⟩, rfl, by rw [List.length_replicate]; omega, by omega⟩
                · repeat (first | (with_reducible exact o3) | (with_reducible refine Own.setOld ?_ _ _ (by dsimp only; omega)) | (with_reducible refine Own.up ?_ (Extd.ext _)) | (with_reducible refine Own.alloc ?_))
                · repeat (first | (with_reducible exact o4) | (with_reducible refine Own.setOld ?_ _ _ (by dsimp only; omega)) | (with_reducible refine Own.up ?_ (Extd.ext _)) | (with_reducible refine Own.alloc ?_))
                · repeat (first | (with_reducible exact OSA.made HCS.out (by omega) (by simp) (by first | exact Nat.le_refl _ | (simp; done) | (simp; omega) | omega)) | (with_reducible refine OSA.setOld ?_ _ _ (by dsimp only; omega)) | (with_reducible refine OSA.alloc ?_ _) | (with_reducible refine OSA.drew ?_) | (with_reducible refine OSA.up ?_ (Extd.ext _)))
              exact AllReadyH.nil
            exact AllReadyH.nil
          refine AllReadyH.cons (opAt rfl) (fun K hK => ?_) ?_
          · go_simp
            refine hK.out _ _ ?_ (fun hHeld1 => ?_)
            · (try dsimp only)
              refine S_of_ext ?_
              exact (by repeat (first | (with_reducible exact Ext.refl _) | (with_reducible refine Ext.up ?_ _) | (with_reducible refine Ext.alloc ?_ _) | (with_reducible refine Ext.drew ?_) | (with_reducible refine Ext.setRow ?_ (by first | exact LeS.le | exact LeS.add _ | (simp; done) | (simp; omega)) _) | (with_reducible refine Ext.setCell ?_ (by first | exact LeS.le | exact LeS.add _ | (simp; done) | (simp; omega)) _)))
            clear hK K hHeld
            have hHeld := hHeld1; clear hHeld1
            try simp only [Act.put, List.setIfInBounds_toArray, List.set_cons_zero, List.set_cons_succ]
            refine wpAnyH_ready (rs := [5]) (by kernel_rfl) (by simp) ?_
            refine AllReadyH.cons (opAt rfl) (fun K hK => ?_) ?_
            · refine step_clone fActn Actn.enc Actn.enc_length (lo := z2.val.heap.size) l (by rfl) (.tmp 17) (.tmp 18) (by rfl) (by rfl) (by rfl) (by repeat (first | (with_reducible exact heap_alloc_new _ _) | (refine heap_alloc_at ?_; simp; done) | (with_reducible refine (Extd.row _ _).trans ?_) | (with_reducible refine (heap_alloc_old _ _ LtS.lt).trans ?_) | (with_reducible refine (drew_row _ _).trans ?_) | (with_reducible refine (heap_alloc_old _ _ (by omega)).trans ?_) | (with_reducible refine (Extd.row_lt _ (by omega)).trans ?_))) (by first | exact LeS.le | omega | (simp; done) | (simp; omega) | (have := z3.ext.size; simp at this; omega)) (HL.out.up (by repeat (first | (with_reducible exact Ext.refl _) | (with_reducible refine Ext.up ?_ _) | (with_reducible refine Ext.alloc ?_ _) | (with_reducible refine Ext.drew ?_) | (with_reducible refine Ext.setRow ?_ (by first | exact LeS.le | exact LeS.add _ | (simp; done) | (simp; omega)) _) | (with_reducible refine Ext.setCell ?_ (by first | exact LeS.le | exact LeS.add _ | (simp; done) | (simp; omega)) _)))) (oneAs _) (by omega) (by omega) ?_
              intro v4 z4 o4 b4
              obtain ⟨q4, d4, hv4, _, _⟩ := (o4.sl Actn.enc_length).openc
              subst hv4
              refine hK.out _ _ ?_ (fun hHeld1 => ?_)
              · (try dsimp only)
                refine S_of_ext ?_
                exact (by repeat (first | (with_reducible exact Ext.refl _) | (with_reducible refine Ext.up ?_ _) | (with_reducible refine Ext.alloc ?_ _) | (with_reducible refine Ext.drew ?_) | (with_reducible refine Ext.setRow ?_ (by first | exact LeS.le | exact LeS.add _ | (simp; done) | (simp; omega)) _) | (with_reducible refine Ext.setCell ?_ (by first | exact LeS.le | exact LeS.add _ | (simp; done) | (simp; omega)) _)))
              clear hK K hHeld
              have hHeld := hHeld1; clear hHeld1
              try simp only [Act.put, List.setIfInBounds_toArray, List.set_cons_zero, List.set_cons_succ]
              refine wpAnyH_take (i := 9) (v := ?_) (opAt rfl) (by kernel_rfl) (by kernel_rfl) (by kernel_rfl) (fun _ _ _ h => h) (Or.inl ⟨by rfl, ?_⟩) (by assumption) ?_
              rotate_left
              · (intro w hSw; (try dsimp only at hSw); go_simp) <;> with_reducible rfl
              try simp only [Act.put, List.setIfInBounds_toArray, List.set_cons_zero, List.set_cons_succ]
              refine wpAnyH_ready (rs := [10]) (by kernel_rfl) (by simp) ?_
              refine AllReadyH.cons (opAt rfl) (fun K hK => ?_) ?_
              · go_simp
                refine hK.out _ _ ?_ (fun hHeld1 => ?_)
                · (try dsimp only)
                  refine S_of_ext ?_
                  exact (by repeat (first | (with_reducible exact Ext.refl _) | (with_reducible refine Ext.up ?_ _) | (with_reducible refine Ext.alloc ?_ _) | (with_reducible refine Ext.drew ?_) | (with_reducible refine Ext.setRow ?_ (by first | exact LeS.le | exact LeS.add _ | (simp; done) | (simp; omega)) _) | (with_reducible refine Ext.setCell ?_ (by first | exact LeS.le | exact LeS.add _ | (simp; done) | (simp; omega)) _)))
                clear hK K hHeld
                have hHeld := hHeld1; clear hHeld1
                try simp only [Act.put, List.setIfInBounds_toArray, List.set_cons_zero, List.set_cons_succ]
                refine wpAnyH_done (by kernel_rfl) ?_ _
                clear hmk
                go_wp2_with fail
                refine bodyPost_ret (v := .agg #[.slice q3 s.length d3, .slice q4 l.length d4, .slice none 0 0, .slice (some ⟨z3.val.heap.size, 0, none⟩) l.length l.length]) (by simp [results, Try.results29, go_sem]) rfl ?_
                have h3 := z3.ext.size
                have h4 := z4.ext.size
                simp at h3 h4
                refine ⟨_, _, _, _, s, l, [], List.replicate l.length zeroTS, rfl, (.of (by repeat (first | (with_reducible exact Ext.refl _) | (with_reducible refine Ext.up ?_ _) | (with_reducible refine Ext.alloc ?_ _) | (with_reducible refine Ext.drew ?_) | (with_reducible refine Ext.setRow ?_ (by first | exact LeS.le | exact LeS.add _ | (simp; done) | (simp; omega)) _) | (with_reducible refine Ext.setCell ?_ (by first | exact LeS.le | exact LeS.add _ | (simp; done) | (simp; omega)) _)))), ⟨Own.lo (lo := z2.val.heap.size) ?_ (by omega), Own.lo (lo := z2.val.heap.size) ?_ (by omega), Own.nil _ _ _ _ _, OSA.lo (lo := z2.val.heap.size) ?_ (by omega)⟩, rfl, by rw [List.length_replicate]; omega, by omega⟩
                · repeat (first | (with_reducible exact o3) | (with_reducible refine Own.setOld ?_ _ _ (by dsimp only; omega)) | (with_reducible refine Own.up ?_ (Extd.ext _)) | (with_reducible refine Own.alloc ?_))
                · repeat (first | (with_reducible exact o4) | (with_reducible refine Own.setOld ?_ _ _ (by dsimp only; omega)) | (with_reducible refine Own.up ?_ (Extd.ext _)) | (with_reducible refine Own.alloc ?_))
                · repeat (first | (with_reducible exact OSA.made HCS.out (by omega) (by simp) (by first | exact Nat.le_refl _ | (simp; done) | (simp; omega) | omega)) | (with_reducible refine OSA.setOld ?_ _ _ (by dsimp only; omega)) | (with_reducible refine OSA.alloc ?_ _) | (with_reducible refine OSA.drew ?_) | (with_reducible refine OSA.up ?_ (Extd.ext _)))
              exact AllReadyH.nil
            exact AllReadyH.nil
          exact AllReadyH.nil
        refine AllReadyH.cons (opAt rfl) (fun K hK => ?_) ?_
        · go_simp
          refine hK.out _ _ ?_ (fun hHeld1 => ?_)
          · (try dsimp only)
            refine S_of_ext ?_
            exact (by repeat (first | (with_reducible exact Ext.refl _) | (with_reducible refine Ext.up ?_ _) | (with_reducible refine Ext.alloc ?_ _) | (with_reducible refine Ext.drew ?_) | (with_reducible refine Ext.setRow ?_ (by first | exact LeS.le | exact LeS.add _ | (simp; done) | (simp; omega)) _) | (with_reducible refine Ext.setCell ?_ (by first | exact LeS.le | exact LeS.add _ | (simp; done) | (simp; omega)) _)))
          clear hK K hHeld
          have hHeld := hHeld1; clear hHeld1
          try simp only [Act.put, List.setIfInBounds_toArray, List.set_cons_zero, List.set_cons_succ]
          refine wpAnyH_ready (rs := [2]) (by kernel_rfl) (by simp) ?_
          refine AllReadyH.cons (opAt rfl) (fun K hK => ?_) ?_
          · refine step_clone fEnt Ent.enc Ent.enc_length (lo := z2.val.heap.size) s (by rfl) (.tmp 14) (.tmp 15) (by rfl) (by rfl) (by rfl) (by repeat (first | (with_reducible exact heap_alloc_new _ _) | (refine heap_alloc_at ?_; simp; done) | (with_reducible refine (Extd.row _ _).trans ?_) | (with_reducible refine (heap_alloc_old _ _ LtS.lt).trans ?_) | (with_reducible refine (drew_row _ _).trans ?_) | (with_reducible refine (heap_alloc_old _ _ (by omega)).trans ?_) | (with_reducible refine (Extd.row_lt _ (by omega)).trans ?_))) (by first | exact LeS.le | omega | (simp; done) | (simp; omega) | (have := z3.ext.size; simp at this; omega)) (H.out.up (by repeat (first | (with_reducible exact Ext.refl _) | (with_reducible refine Ext.up ?_ _) | (with_reducible refine Ext.alloc ?_ _) | (with_reducible refine Ext.drew ?_) | (with_reducible refine Ext.setRow ?_ (by first | exact LeS.le | exact LeS.add _ | (simp; done) | (simp; omega)) _) | (with_reducible refine Ext.setCell ?_ (by first | exact LeS.le | exact LeS.add _ | (simp; done) | (simp; omega)) _)))) (oneEs' _) (by omega) (by omega) ?_
            intro v3 z3 o3 b3
            obtain ⟨q3, d3, hv3, _, _⟩ := (o3.sl Ent.enc_length).openc
            subst hv3
            refine hK.out _ _ ?_ (fun hHeld1 => ?_)
            · (try dsimp only)
              refine S_of_ext ?_
              exact (by repeat (first | (with_reducible exact Ext.refl _) | (with_reducible refine Ext.up ?_ _) | (with_reducible refine Ext.alloc ?_ _) | (with_reducible refine Ext.drew ?_) | (with_reducible refine Ext.setRow ?_ (by first | exact LeS.le | exact LeS.add _ | (simp; done) | (simp; omega)) _) | (with_reducible refine Ext.setCell ?_ (by first | exact LeS.le | exact LeS.add _ | (simp; done) | (simp; omega)) _)))
            clear hK K hHeld
            have hHeld := hHeld1; clear hHeld1
            try simp only [Act.put, List.setIfInBounds_toArray, List.set_cons_zero, List.set_cons_succ]
            refine wpAnyH_ready (rs := [5]) (by kernel_rfl) (by simp) ?_
            refine AllReadyH.cons (opAt rfl) (fun K hK => ?_) ?_
            · refine step_clone fActn Actn.enc Actn.enc_length (lo := z2.val.heap.size) l (by rfl) (.tmp 17) (.tmp 18) (by rfl) (by rfl) (by rfl) (by repeat (first | (with_reducible exact heap_alloc_new _ _) | (refine heap_alloc_at ?_; simp; done) | (with_reducible refine (Extd.row _ _).trans ?_) | (with_reducible refine (heap_alloc_old _ _ LtS.lt).trans ?_) | (with_reducible refine (drew_row _ _).trans ?_) | (with_reducible refine (heap_alloc_old _ _ (by omega)).trans ?_) | (with_reducible refine (Extd.row_lt _ (by omega)).trans ?_))) (by first | exact LeS.le | omega | (simp; done) | (simp; omega) | (have := z3.ext.size; simp at this; omega)) (HL.out.up (by repeat (first | (with_reducible exact Ext.refl _) | (with_reducible refine Ext.up ?_ _) | (with_reducible refine Ext.alloc ?_ _) | (with_reducible refine Ext.drew ?_) | (with_reducible refine Ext.setRow ?_ (by first | exact LeS.le | exact LeS.add _ | (simp; done) | (simp; omega)) _) | (with_reducible refine Ext.setCell ?_ (by first | exact LeS.le | exact LeS.add _ | (simp; done) | (simp; omega)) _)))) (oneAs _) (by omega) (by omega) ?_
              intro v4 z4 o4 b4
              obtain ⟨q4, d4, hv4, _, _⟩ := (o4.sl Actn.enc_length).openc
              subst hv4
              refine hK.out _ _ ?_ (fun hHeld1 => ?_)
              · (try dsimp only)
                refine S_of_ext ?_
                exact (by repeat (first | (with_reducible exact Ext.refl _) | (with_reducible refine Ext.up ?_ _) | (with_reducible refine Ext.alloc ?_ _) | (with_reducible refine Ext.drew ?_) | (with_reducible refine Ext.setRow ?_ (by first | exact LeS.le | exact LeS.add _ | (simp; done) | (simp; omega)) _) | (with_reducible refine Ext.setCell ?_ (by first | exact LeS.le | exact LeS.add _ | (simp; done) | (simp; omega)) _)))
              clear hK K hHeld
              have hHeld := hHeld1; clear hHeld1
              try simp only [Act.put, List.setIfInBounds_toArray, List.set_cons_zero, List.set_cons_succ]
              refine wpAnyH_take (i := 9) (v := ?_) (opAt rfl) (by kernel_rfl) (by kernel_rfl) (by kernel_rfl) (fun _ _ _ h => h) (Or.inl ⟨by rfl, ?_⟩) (by assumption) ?_
              rotate_left
              · (intro w hSw; (try dsimp only at hSw); go_simp) <;> with_reducible rfl
              try simp only [Act.put, List.setIfInBounds_toArray, List.set_cons_zero, List.set_cons_succ]
              refine wpAnyH_ready (rs := [10]) (by kernel_rfl) (by simp) ?_
              refine AllReadyH.cons (opAt rfl) (fun K hK => ?_) ?_
              · go_simp
                refine hK.out _ _ ?_ (fun hHeld1 => ?_)
                · (try dsimp only)
                  refine S_of_ext ?_
                  exact (by repeat (first | (with_reducible exact Ext.refl _) | (with_reducible refine Ext.up ?_ _) | (with_reducible refine Ext.alloc ?_ _) | (with_reducible refine Ext.drew ?_) | (with_reducible refine Ext.setRow ?_ (by first | exact LeS.le | exact LeS.add _ | (simp; done) | (simp; omega)) _) | (with_reducible refine Ext.setCell ?_ (by first | exact LeS.le | exact LeS.add _ | (simp; done) | (simp; omega)) _)))
                clear hK K hHeld
                have hHeld := hHeld1; clear hHeld1
                try simp only [Act.put, List.setIfInBounds_toArray, List.set_cons_zero, List.set_cons_succ]
                refine wpAnyH_done (by kernel_rfl) ?_ _
                clear hmk
                go_wp2_with fail
                refine bodyPost_ret (v := .agg #[.slice q3 s.length d3, .slice q4 l.length d4, .slice none 0 0, .slice (some ⟨z2.val.heap.size + 1 + 1, 0, none⟩) l.length l.length]) (by simp [results, Try.results29, go_sem]) rfl ?_
                have h3 := z3.ext.size
                have h4 := z4.ext.size
                simp at h3 h4
                refine ⟨_, _, _, _, s, l, [], List.replicate l.length zeroTS, rfl, (.of (by repeat (first | (with_reducible exact Ext.refl _) | (with_reducible refine Ext.up ?_ _) | (with_reducible refine Ext.alloc ?_ _) | (with_reducible refine Ext.drew ?_) | (with_reducible refine Ext.setRow ?_ (by first | exact LeS.le | exact LeS.add _ | (simp; done) | (simp; omega)) _) | (with_reducible refine Ext.setCell ?_ (by first | exact LeS.le | exact LeS.add _ | (simp; done) | (simp; omega)) _)))), ⟨Own.lo (lo := z2.val.heap.size) ?_ (by omega), Own.lo (lo := z2.val.heap.size) ?_ (by omega), Own.nil _ _ _ _ _, OSA.lo (lo := z2.val.heap.size) ?_ (by omega)⟩, rfl, by rw [List.length_replicate]; omega, by omega⟩
                · repeat (first | (with_reducible exact o3) | (with_reducible refine Own.setOld ?_ _ _ (by dsimp only; omega)) | (with_reducible refine Own.up ?_ (Extd.ext _)) | (with_reducible refine Own.alloc ?_))
                · repeat (first | (with_reducible exact o4) | (with_reducible refine Own.setOld ?_ _ _ (by dsimp only; omega)) | (with_reducible refine Own.up ?_ (Extd.ext _)) | (with_reducible refine Own.alloc ?_))
                · repeat (first | (with_reducible exact OSA.made HCS.out (by omega) (by simp) (by first | exact Nat.le_refl _ | (simp; done) | (simp; omega) | omega)) | (with_reducible refine OSA.setOld ?_ _ _ (by dsimp only; omega)) | (with_reducible refine OSA.alloc ?_ _) | (with_reducible refine OSA.drew ?_) | (with_reducible refine OSA.up ?_ (Extd.ext _)))
              exact AllReadyH.nil
            exact AllReadyH.nil
          exact AllReadyH.nil
        exact AllReadyH.nil
      refine AllReadyH.cons (opAt rfl) (fun K hK => ?_) ?_
      · go_simp
        refine hK.out _ _ ?_ (fun hHeld1 => ?_)
        · (try dsimp only)
          refine S_of_ext ?_
          exact (by repeat (first | (with_reducible exact Ext.refl _) | (with_reducible refine Ext.up ?_ _) | (with_reducible refine Ext.alloc ?_ _) | (with_reducible refine Ext.drew ?_) | (with_reducible refine Ext.setRow ?_ (by first | exact LeS.le | exact LeS.add _ | (simp; done) | (simp; omega)) _) | (with_reducible refine Ext.setCell ?_ (by first | exact LeS.le | exact LeS.add _ | (simp; done) | (simp; omega)) _)))
        clear hK K hHeld
        have hHeld := hHeld1; clear hHeld1
        try simp only [Act.put, List.setIfInBounds_toArray, List.set_cons_zero, List.set_cons_succ]
        refine wpAnyH_ready (rs := [2, 3]) (by kernel_rfl) (by simp) ?_
        refine AllReadyH.cons (opAt rfl) (fun K hK => ?_) ?_
        · refine step_clone fEnt Ent.enc Ent.enc_length (lo := z2.val.heap.size) s (by rfl) (.tmp 14) (.tmp 15) (by rfl) (by rfl) (by rfl) (by repeat (first | (with_reducible exact heap_alloc_new _ _) | (refine heap_alloc_at ?_; simp; done) | (with_reducible refine (Extd.row _ _).trans ?_) | (with_reducible refine (heap_alloc_old _ _ LtS.lt).trans ?_) | (with_reducible refine (drew_row _ _).trans ?_) | (with_reducible refine (heap_alloc_old _ _ (by omega)).trans ?_) | (with_reducible refine (Extd.row_lt _ (by omega)).trans ?_))) (by first | exact LeS.le | omega | (simp; done) | (simp; omega) | (have := z3.ext.size; simp at this; omega)) (H.out.up (by repeat (first | (with_reducible exact Ext.refl _) | (with_reducible refine Ext.up ?_ _) | (with_reducible refine Ext.alloc ?_ _) | (with_reducible refine Ext.drew ?_) | (with_reducible refine Ext.setRow ?_ (by first | exact LeS.le | exact LeS.add _ | (simp; done) | (simp; omega)) _) | (with_reducible refine Ext.setCell ?_ (by first | exact LeS.le | exact LeS.add _ | (simp; done) | (simp; omega)) _)))) (oneEs' _) (by omega) (by omega) ?_
          intro v3 z3 o3 b3
          obtain ⟨q3, d3, hv3, _, _⟩ := (o3.sl Ent.enc_length).openc
          subst hv3
          refine hK.out _ _ ?_ (fun hHeld1 => ?_)
          · (try dsimp only)
            refine S_of_ext ?_
            exact (by repeat (first | (with_reducible exact Ext.refl _) | (with_reducible refine Ext.up ?_ _) | (with_reducible refine Ext.alloc ?_ _) | (with_reducible refine Ext.drew ?_) | (with_reducible refine Ext.setRow ?_ (by first | exact LeS.le | exact LeS.add _ | (simp; done) | (simp; omega)) _) | (with_reducible refine Ext.setCell ?_ (by first | exact LeS.le | exact LeS.add _ | (simp; done) | (simp; omega)) _)))
          clear hK K hHeld
          have hHeld := hHeld1; clear hHeld1
          try simp only [Act.put, List.setIfInBounds_toArray, List.set_cons_zero, List.set_cons_succ]
          refine wpAnyH_ready (rs := [3]) (by kernel_rfl) (by simp) ?_
          refine AllReadyH.cons (opAt rfl) (fun K hK => ?_) ?_
          · go_simp
            refine hK.out _ _ ?_ (fun hHeld1 => ?_)
            · (try dsimp only)
              refine S_of_ext ?_
              exact (by repeat (first | (with_reducible exact Ext.refl _) | (with_reducible refine Ext.up ?_ _) | (with_reducible refine Ext.alloc ?_ _) | (with_reducible refine Ext.drew ?_) | (with_reducible refine Ext.setRow ?_ (by first | exact LeS.le | exact LeS.add _ | (simp; done) | (simp; omega)) _) | (with_reducible refine Ext.setCell ?_ (by first | exact LeS.le | exact LeS.add _ | (simp; done) | (simp; omega)) _)))
            clear hK K hHeld
            have hHeld := hHeld1; clear hHeld1
            try simp only [Act.put, List.setIfInBounds_toArray, List.set_cons_zero, List.set_cons_succ]
            refine wpAnyH_ready (rs := [5]) (by kernel_rfl) (by simp) ?_
            refine AllReadyH.cons (opAt rfl) (fun K hK => ?_) ?_
            · refine step_clone fActn Actn.enc Actn.enc_length (lo := z2.val.heap.size) l (by rfl) (.tmp 17) (.tmp 18) (by rfl) (by rfl) (by rfl) (by repeat (first | (with_reducible exact heap_alloc_new _ _) | (refine heap_alloc_at ?_; simp; done) | (with_reducible refine (Extd.row _ _).trans ?_) | (with_reducible refine (heap_alloc_old _ _ LtS.lt).trans ?_) | (with_reducible refine (drew_row _ _).trans ?_) | (with_reducible refine (heap_alloc_old _ _ (by omega)).trans ?_) | (with_reducible refine (Extd.row_lt _ (by omega)).trans ?_))) (by first | exact LeS.le | omega | (simp; done) | (simp; omega) | (have := z3.ext.size; simp at this; omega)) (HL.out.up (by repeat (first | (with_reducible exact Ext.refl _) | (with_reducible refine Ext.up ?_ _) | (with_reducible refine Ext.alloc ?_ _) | (with_reducible refine Ext.drew ?_) | (with_reducible refine Ext.setRow ?_ (by first | exact LeS.le | exact LeS.add _ | (simp; done) | (simp; omega)) _) | (with_reducible refine Ext.setCell ?_ (by first | exact LeS.le | exact LeS.add _ | (simp; done) | (simp; omega)) _)))) (oneAs _) (by omega) (by omega) ?_
              intro v4 z4 o4 b4
              obtain ⟨q4, d4, hv4, _, _⟩ := (o4.sl Actn.enc_length).openc
              subst hv4
              refine hK.out _ _ ?_ (fun hHeld1 => ?_)
              · (try dsimp only)
                refine S_of_ext ?_
                exact (by repeat (first | (with_reducible exact Ext.refl _) | (with_reducible refine Ext.up ?_ _) | (with_reducible refine Ext.alloc ?_ _) | (with_reducible refine Ext.drew ?_) | (with_reducible refine Ext.setRow ?_ (by first | exact LeS.le | exact LeS.add _ | (simp; done) | (simp; omega)) _) | (with_reducible refine Ext.setCell ?_ (by first | exact LeS.le | exact LeS.add _ | (simp; done) | (simp; omega)) _)))
              clear hK K hHeld
              have hHeld := hHeld1; clear hHeld1
              try simp only [Act.put, List.setIfInBounds_toArray, List.set_cons_zero, List.set_cons_succ]
              refine wpAnyH_take (i := 9) (v := ?_) (opAt rfl) (by kernel_rfl) (by kernel_rfl) (by kernel_rfl) (fun _ _ _ h => h) (Or.inl ⟨by rfl, ?_⟩) (by assumption) ?_
              rotate_left
              · (intro w hSw; (try dsimp only at hSw); go_simp) <;> with_reducible rfl
              try simp only [Act.put, List.setIfInBounds_toArray, List.set_cons_zero, List.set_cons_succ]
              refine wpAnyH_ready (rs := [10]) (by kernel_rfl) (by simp) ?_
              refine AllReadyH.cons (opAt rfl) (fun K hK => ?_) ?_
              · go_simp
                refine hK.out _ _ ?_ (fun hHeld1 => ?_)
                · (try dsimp only)
                  refine S_of_ext ?_
                  exact (by repeat (first | (with_reducible exact Ext.refl _) | (with_reducible refine Ext.up ?_ _) | (with_reducible refine Ext.alloc ?_ _) | (with_reducible refine Ext.drew ?_) | (with_reducible refine Ext.setRow ?_ (by first | exact LeS.le | exact LeS.add _ | (simp; done) | (simp; omega)) _) | (with_reducible refine Ext.setCell ?_ (by first | exact LeS.le | exact LeS.add _ | (simp; done) | (simp; omega)) _)))
                clear hK K hHeld
                have hHeld := hHeld1; clear hHeld1
                try simp only [Act.put, List.setIfInBounds_toArray, List.set_cons_zero, List.set_cons_succ]
                refine wpAnyH_done (by kernel_rfl) ?_ _
                clear hmk
                go_wp2_with fail
                refine bodyPost_ret (v := .agg #[.slice q3 s.length d3, .slice q4 l.length d4, .slice none 0 0, .slice (some ⟨z2.val.heap.size + 1, 0, none⟩) l.length l.length]) (by simp [results, Try.results29, go_sem]) rfl ?_
                have h3 := z3.ext.size
                have h4 := z4.ext.size
                simp at h3 h4
                refine ⟨_, _, _, _, s, l, [], List.replicate l.length zeroTS, rfl, (.of (by repeat (first | (with_reducible exact Ext.refl _) | (with_reducible refine Ext.up ?_ _) | (with_reducible refine Ext.alloc ?_ _) | (with_reducible refine Ext.drew ?_) | (with_reducible refine Ext.setRow ?_ (by first | exact LeS.le | exact LeS.add _ | (simp; done) | (simp; omega)) _) | (with_reducible refine Ext.setCell ?_ (by first | exact LeS.le | exact LeS.add _ | (simp; done) | (simp; omega)) _)))), ⟨Own.lo (lo := z2.val.heap.size) ?_ (by omega), Own.lo (lo := z2.val.heap.size) ?_ (by omega), Own.nil _ _ _ _ _, OSA.lo (lo := z2.val.heap.size) ?_ (by omega)⟩, rfl, by rw [List.length_replicate]; omega, by omega⟩
                · repeat (first | (with_reducible exact o3) | (with_reducible refine Own.setOld ?_ _ _ (by dsimp only; omega)) | (with_reducible refine Own.up ?_ (Extd.ext _)) | (with_reducible refine Own.alloc ?_))
                · repeat (first | (with_reducible exact o4) | (with_reducible refine Own.setOld ?_ _ _ (by dsimp only; omega)) | (with_reducible refine Own.up ?_ (Extd.ext _)) | (with_reducible refine Own.alloc ?_))
                · repeat (first | (with_reducible exact OSA.made HCS.out (by omega) (by simp) (by first | exact Nat.le_refl _ | (simp; done) | (simp; omega) | omega)) | (with_reducible refine OSA.setOld ?_ _ _ (by dsimp only; omega)) | (with_reducible refine OSA.alloc ?_ _) | (with_reducible refine OSA.drew ?_) | (with_reducible refine OSA.up ?_ (Extd.ext _)))
              exact AllReadyH.nil
            exact AllReadyH.nil
          exact AllReadyH.nil
        refine AllReadyH.cons (opAt rfl) (fun K hK => ?_) ?_
        · go_simp
          refine hK.out _ _ ?_ (fun hHeld1 => ?_)
          · (try dsimp only)
            refine S_of_ext ?_
            exact (by repeat (first | (with_reducible exact Ext.refl _) | (with_reducible refine Ext.up ?_ _) | (with_reducible refine Ext.alloc ?_ _) | (with_reducible refine Ext.drew ?_) | (with_reducible refine Ext.setRow ?_ (by first | exact LeS.le | exact LeS.add _ | (simp; done) | (simp; omega)) _) | (with_reducible refine Ext.setCell ?_ (by first | exact LeS.le | exact LeS.add _ | (simp; done) | (simp; omega)) _)))
          clear hK K hHeld
          have hHeld := hHeld1; clear hHeld1
          try simp only [Act.put, List.setIfInBounds_toArray, List.set_cons_zero, List.set_cons_succ]
          refine wpAnyH_ready (rs := [2]) (by kernel_rfl) (by simp) ?_
          refine AllReadyH.cons (opAt rfl) (fun K hK => ?_) ?_
          · refine step_clone fEnt Ent.enc Ent.enc_length (lo := z2.val.heap.size) s (by rfl) (.tmp 14) (.tmp 15) (by rfl) (by rfl) (by rfl) (by repeat (first | (with_reducible exact heap_alloc_new _ _) | (refine heap_alloc_at ?_; simp; done) | (with_reducible refine (Extd.row _ _).trans ?_) | (with_reducible refine (heap_alloc_old _ _ LtS.lt).trans ?_) | (with_reducible refine (drew_row _ _).trans ?_) | (with_reducible refine (heap_alloc_old _ _ (by omega)).trans ?_) | (with_reducible refine (Extd.row_lt _ (by omega)).trans ?_))) (by first | exact LeS.le | omega | (simp; done) | (simp; omega) | (have := z3.ext.size; simp at this; omega)) (H.out.up (by repeat (first | (with_reducible exact Ext.refl _) | (with_reducible refine Ext.up ?_ _) | (with_reducible refine Ext.alloc ?_ _) | (with_reducible refine Ext.drew ?_) | (with_reducible refine Ext.setRow ?_ (by first | exact LeS.le | exact LeS.add _ | (simp; done) | (simp; omega)) _) | (with_reducible refine Ext.setCell ?_ (by first | exact LeS.le | exact LeS.add _ | (simp; done) | (simp; omega)) _)))) (oneEs' _) (by omega) (by omega) ?_
            intro v3 z3 o3 b3
            obtain ⟨q3, d3, hv3, _, _⟩ := (o3.sl Ent.enc_length).openc
            subst hv3
            refine hK.out _ _ ?_ (fun hHeld1 => ?_)
            · (try dsimp only)
              refine S_of_ext ?_
              exact (by repeat (first | (with_reducible exact Ext.refl _) | (with_reducible refine Ext.up ?_ _) | (with_reducible refine Ext.alloc ?_ _) | (with_reducible refine Ext.drew ?_) | (with_reducible refine Ext.setRow ?_ (by first | exact LeS.le | exact LeS.add _ | (simp; done) | (simp; omega)) _) | (with_reducible refine Ext.setCell ?_ (by first | exact LeS.le | exact LeS.add _ | (simp; done) | (simp; omega)) _)))
            clear hK K hHeld
            have hHeld := hHeld1; clear hHeld1
            try simp only [Act.put, List.setIfInBounds_toArray, List.set_cons_zero, List.set_cons_succ]
            refine wpAnyH_ready (rs := [5]) (by kernel_rfl) (by simp) ?_
            refine AllReadyH.cons (opAt rfl) (fun K hK => ?_) ?_
            · refine step_clone fActn Actn.enc Actn.enc_length (lo := z2.val.heap.size) l (by rfl) (.tmp 17) (.tmp 18) (by rfl) (by rfl) (by rfl) (by repeat (first | (with_reducible exact heap_alloc_new _ _) | (refine heap_alloc_at ?_; simp; done) | (with_reducible refine (Extd.row _ _).trans ?_) | (with_reducible refine (heap_alloc_old _ _ LtS.lt).trans ?_) | (with_reducible refine (drew_row _ _).trans ?_) | (with_reducible refine (heap_alloc_old _ _ (by omega)).trans ?_) | (with_reducible refine (Extd.row_lt _ (by omega)).trans ?_))) (by first | exact LeS.le | omega | (simp; done) | (simp; omega) | (have := z3.ext.size; simp at this; omega)) (HL.out.up (by repeat (first | (with_reducible exact Ext.refl _) | (with_reducible refine Ext.up ?_ _) | (with_reducible refine Ext.alloc ?_ _) | (with_reducible refine Ext.drew ?_) | (with_reducible refine Ext.setRow ?_ (by first | exact LeS.le | exact LeS.add _ | (simp; done) | (simp; omega)) _) | (with_reducible refine Ext.setCell ?_ (by first | exact LeS.le | exact LeS.add _ | (simp; done) | (simp; omega)) _)))) (oneAs _) (by omega) (by omega) ?_
              intro v4 z4 o4 b4
              obtain ⟨q4, d4, hv4, _, _⟩ := (o4.sl Actn.enc_length).openc
              subst hv4
              refine hK.out _ _ ?_ (fun hHeld1 => ?_)
              · (try dsimp only)
                refine S_of_ext ?_
                exact (by repeat (first | (with_reducible exact Ext.refl _) | (with_reducible refine Ext.up ?_ _) | (with_reducible refine Ext.alloc ?_ _) | (with_reducible refine Ext.drew ?_) | (with_reducible refine Ext.setRow ?_ (by first | exact LeS.le | exact LeS.add _ | (simp; done) | (simp; omega)) _) | (with_reducible refine Ext.setCell ?_ (by first | exact LeS.le | exact LeS.add _ | (simp; done) | (simp; omega)) _)))
              clear hK K hHeld
              have hHeld := hHeld1; clear hHeld1
              try simp only [Act.put, List.setIfInBounds_toArray, List.set_cons_zero, List.set_cons_succ]
              refine wpAnyH_take (i := 9) (v := ?_) (opAt rfl) (by kernel_rfl) (by kernel_rfl) (by kernel_rfl) (fun _ _ _ h => h) (Or.inl ⟨by rfl, ?_⟩) (by assumption) ?_
              rotate_left
              · (intro w hSw; (try dsimp only at hSw); go_simp) <;> with_reducible rfl
              try simp only [Act.put, List.setIfInBounds_toArray, List.set_cons_zero, List.set_cons_succ]
              refine wpAnyH_ready (rs := [10]) (by kernel_rfl) (by simp) ?_
              refine AllReadyH.cons (opAt rfl) (fun K hK => ?_) ?_
              · go_simp
                refine hK.out _ _ ?_ (fun hHeld1 => ?_)
                · (try dsimp only)
                  refine S_of_ext ?_
                  exact (by repeat (first | (with_reducible exact Ext.refl _) | (with_reducible refine Ext.up ?_ _) | (with_reducible refine Ext.alloc ?_ _) | (with_reducible refine Ext.drew ?_) | (with_reducible refine Ext.setRow ?_ (by first | exact LeS.le | exact LeS.add _ | (simp; done) | (simp; omega)) _) | (with_reducible refine Ext.setCell ?_ (by first | exact LeS.le | exact LeS.add _ | (simp; done) | (simp; omega)) _)))
                clear hK K hHeld
                have hHeld := hHeld1; clear hHeld1
                try simp only [Act.put, List.setIfInBounds_toArray, List.set_cons_zero, List.set_cons_succ]
                refine wpAnyH_done (by kernel_rfl) ?_ _
                clear hmk
                go_wp2_with fail
                refine bodyPost_ret (v := .agg #[.slice q3 s.length d3, .slice q4 l.length d4, .slice none 0 0, .slice (some ⟨z2.val.heap.size + 1, 0, none⟩) l.length l.length]) (by simp [results, Try.results29, go_sem]) rfl ?_
                have h3 := z3.ext.size
                have h4 := z4.ext.size
                simp at h3 h4
                refine ⟨_, _, _, _, s, l, [], List.replicate l.length zeroTS, rfl, (.of (by repeat (first | (with_reducible exact Ext.refl _) | (with_reducible refine Ext.up ?_ _) | (with_reducible refine Ext.alloc ?_ _) | (with_reducible refine Ext.drew ?_) | (with_reducible refine Ext.setRow ?_ (by first | exact LeS.le | exact LeS.add _ | (simp; done) | (simp; omega)) _) | (with_reducible refine Ext.setCell ?_ (by first | exact LeS.le | exact LeS.add _ | (simp; done) | (simp; omega)) _)))), ⟨Own.lo (lo := z2.val.heap.size) ?_ (by omega), Own.lo (lo := z2.val.heap.size) ?_ (by omega), Own.nil _ _ _ _ _, OSA.lo (lo := z2.val.heap.size) ?_ (by omega)⟩, rfl, by rw [List.length_replicate]; omega, by omega⟩
                · repeat (first | (with_reducible exact o3) | (with_reducible refine Own.setOld ?_ _ _ (by dsimp only; omega)) | (with_reducible refine Own.up ?_ (Extd.ext _)) | (with_reducible refine Own.alloc ?_))
                · repeat (first | (with_reducible exact o4) | (with_reducible refine Own.setOld ?_ _ _ (by dsimp only; omega)) | (with_reducible refine Own.up ?_ (Extd.ext _)) | (with_reducible refine Own.alloc ?_))
                · repeat (first | (with_reducible exact OSA.made HCS.out (by omega) (by simp) (by first | exact Nat.le_refl _ | (simp; done) | (simp; omega) | omega)) | (with_reducible refine OSA.setOld ?_ _ _ (by dsimp only; omega)) | (with_reducible refine OSA.alloc ?_ _) | (with_reducible refine OSA.drew ?_) | (with_reducible refine OSA.up ?_ (Extd.ext _)))
              exact AllReadyH.nil
            exact AllReadyH.nil
          exact AllReadyH.nil
        exact AllReadyH.nil
      exact AllReadyH.nil
    refine AllReadyH.cons (opAt rfl) (fun K hK => ?_) ?_
    · go_simp
      refine hK.out _ _ ?_ (fun hHeld1 => ?_)
      · (try dsimp only)
        refine S_of_ext ?_
        exact (by repeat (first | (with_reducible exact Ext.refl _) | (with_reducible refine Ext.up ?_ _) | (with_reducible refine Ext.alloc ?_ _) | (with_reducible refine Ext.drew ?_) | (with_reducible refine Ext.setRow ?_ (by first | exact LeS.le | exact LeS.add _ | (simp; done) | (simp; omega)) _) | (with_reducible refine Ext.setCell ?_ (by first | exact LeS.le | exact LeS.add _ | (simp; done) | (simp; omega)) _)))
      clear hK K hHeld
      have hHeld := hHeld1; clear hHeld1
      try simp only [Act.put, List.setIfInBounds_toArray, List.set_cons_zero, List.set_cons_succ]
      refine wpAnyH_ready (rs := [0, 8]) (by kernel_rfl) (by simp) ?_
      refine AllReadyH.cons (opAt rfl) (fun K hK => ?_) ?_
      · go_simp
        refine hK.out _ _ ?_ (fun hHeld1 => ?_)
        · (try dsimp only)
          refine S_of_ext ?_
          exact (by repeat (first | (with_reducible exact Ext.refl _) | (with_reducible refine Ext.up ?_ _) | (with_reducible refine Ext.alloc ?_ _) | (with_reducible refine Ext.drew ?_) | (with_reducible refine Ext.setRow ?_ (by first | exact LeS.le | exact LeS.add _ | (simp; done) | (simp; omega)) _) | (with_reducible refine Ext.setCell ?_ (by first | exact LeS.le | exact LeS.add _ | (simp; done) | (simp; omega)) _)))
        clear hK K hHeld
        have hHeld := hHeld1; clear hHeld1
        try simp only [Act.put, List.setIfInBounds_toArray, List.set_cons_zero, List.set_cons_succ]
        refine wpAnyH_ready (rs := [2, 8]) (by kernel_rfl) (by simp) ?_
        refine AllReadyH.cons (opAt rfl) (fun K hK => ?_) ?_
        · refine step_clone fEnt Ent.enc Ent.enc_length (lo := z2.val.heap.size) s (by rfl) (.tmp 14) (.tmp 15) (by rfl) (by rfl) (by rfl) (by repeat (first | (with_reducible exact heap_alloc_new _ _) | (refine heap_alloc_at ?_; simp; done) | (with_reducible refine (Extd.row _ _).trans ?_) | (with_reducible refine (heap_alloc_old _ _ LtS.lt).trans ?_) | (with_reducible refine (drew_row _ _).trans ?_) | (with_reducible refine (heap_alloc_old _ _ (by omega)).trans ?_) | (with_reducible refine (Extd.row_lt _ (by omega)).trans ?_))) (by first | exact LeS.le | omega | (simp; done) | (simp; omega) | (have := z3.ext.size; simp at this; omega)) (H.out.up (by repeat (first | (with_reducible exact Ext.refl _) | (with_reducible refine Ext.up ?_ _) | (with_reducible refine Ext.alloc ?_ _) | (with_reducible refine Ext.drew ?_) | (with_reducible refine Ext.setRow ?_ (by first | exact LeS.le | exact LeS.add _ | (simp; done) | (simp; omega)) _) | (with_reducible refine Ext.setCell ?_ (by first | exact LeS.le | exact LeS.add _ | (simp; done) | (simp; omega)) _)))) (oneEs' _) (by omega) (by omega) ?_
          intro v3 z3 o3 b3
          obtain ⟨q3, d3, hv3, _, _⟩ := (o3.sl Ent.enc_length).openc
          subst hv3
          refine hK.out _ _ ?_ (fun hHeld1 => ?_)
          · (try dsimp only)
            refine S_of_ext ?_
            exact (by repeat (first | (with_reducible exact Ext.refl _) | (with_reducible refine Ext.up ?_ _) | (with_reducible refine Ext.alloc ?_ _) | (with_reducible refine Ext.drew ?_) | (with_reducible refine Ext.setRow ?_ (by first | exact LeS.le | exact LeS.add _ | (simp; done) | (simp; omega)) _) | (with_reducible refine Ext.setCell ?_ (by first | exact LeS.le | exact LeS.add _ | (simp; done) | (simp; omega)) _)))
          clear hK K hHeld
          have hHeld := hHeld1; clear hHeld1
          try simp only [Act.put, List.setIfInBounds_toArray, List.set_cons_zero, List.set_cons_succ]
          refine wpAnyH_ready (rs := [5, 8]) (by kernel_rfl) (by simp) ?_
          refine AllReadyH.cons (opAt rfl) (fun K hK => ?_) ?_
          · refine step_clone fActn Actn.enc Actn.enc_length (lo := z2.val.heap.size) l (by rfl) (.tmp 17) (.tmp 18) (by rfl) (by rfl) (by rfl) (by repeat (first | (with_reducible exact heap_alloc_new _ _) | (refine heap_alloc_at ?_; simp; done) | (with_reducible refine (Extd.row _ _).trans ?_) | (with_reducible refine (heap_alloc_old _ _ LtS.lt).trans ?_) | (with_reducible refine (drew_row _ _).trans ?_) | (with_reducible refine (heap_alloc_old _ _ (by omega)).trans ?_) | (with_reducible refine (Extd.row_lt _ (by omega)).trans ?_))) (by first | exact LeS.le | omega | (simp; done) | (simp; omega) | (have := z3.ext.size; simp at this; omega)) (HL.out.up (by repeat (first | (with_reducible exact Ext.refl _) | (with_reducible refine Ext.up ?_ _) | (with_reducible refine Ext.alloc ?_ _) | (with_reducible refine Ext.drew ?_) | (with_reducible refine Ext.setRow ?_ (by first | exact LeS.le | exact LeS.add _ | (simp; done) | (simp; omega)) _) | (with_reducible refine Ext.setCell ?_ (by first | exact LeS.le | exact LeS.add _ | (simp; done) | (simp; omega)) _)))) (oneAs _) (by omega) (by omega) ?_
            intro v4 z4 o4 b4
            obtain ⟨q4, d4, hv4, _, _⟩ := (o4.sl Actn.enc_length).openc
            subst hv4
            refine hK.out _ _ ?_ (fun hHeld1 => ?_)
            · (try dsimp only)
              refine S_of_ext ?_
              exact (by repeat (first | (with_reducible exact Ext.refl _) | (with_reducible refine Ext.up ?_ _) | (with_reducible refine Ext.alloc ?_ _) | (with_reducible refine Ext.drew ?_) | (with_reducible refine Ext.setRow ?_ (by first | exact LeS.le | exact LeS.add _ | (simp; done) | (simp; omega)) _) | (with_reducible refine Ext.setCell ?_ (by first | exact LeS.le | exact LeS.add _ | (simp; done) | (simp; omega)) _)))
            clear hK K hHeld
            have hHeld := hHeld1; clear hHeld1
            try simp only [Act.put, List.setIfInBounds_toArray, List.set_cons_zero, List.set_cons_succ]
            refine wpAnyH_ready (rs := [8]) (by kernel_rfl) (by simp) ?_
            refine AllReadyH.cons (opAt rfl) (fun K hK => ?_) ?_
            · go_simp
              refine hK.out _ _ ?_ (fun hHeld1 => ?_)
              · (try dsimp only)
                refine S_of_ext ?_
                exact (by repeat (first | (with_reducible exact Ext.refl _) | (with_reducible refine Ext.up ?_ _) | (with_reducible refine Ext.alloc ?_ _) | (with_reducible refine Ext.drew ?_) | (with_reducible refine Ext.setRow ?_ (by first | exact LeS.le | exact LeS.add _ | (simp; done) | (simp; omega)) _) | (with_reducible refine Ext.setCell ?_ (by first | exact LeS.le | exact LeS.add _ | (simp; done) | (simp; omega)) _)))
              clear hK K hHeld
              have hHeld := hHeld1; clear hHeld1
              try simp only [Act.put, List.setIfInBounds_toArray, List.set_cons_zero, List.set_cons_succ]
              refine wpAnyH_take (i := 9) (v := ?_) (opAt rfl) (by kernel_rfl) (by kernel_rfl) (by kernel_rfl) (fun _ _ _ h => h) (Or.inl ⟨by rfl, ?_⟩) (by assumption) ?_
              rotate_left
              · (intro w hSw; (try dsimp only at hSw); go_simp) <;> with_reducible rfl
              try simp only [Act.put, List.setIfInBounds_toArray, List.set_cons_zero, List.set_cons_succ]
              refine wpAnyH_ready (rs := [10]) (by kernel_rfl) (by simp) ?_
              refine AllReadyH.cons (opAt rfl) (fun K hK => ?_) ?_
              · go_simp
                refine hK.out _ _ ?_ (fun hHeld1 => ?_)
                · (try dsimp only)
                  refine S_of_ext ?_
                  exact (by repeat (first | (with_reducible exact Ext.refl _) | (with_reducible refine Ext.up ?_ _) | (with_reducible refine Ext.alloc ?_ _) | (with_reducible refine Ext.drew ?_) | (with_reducible refine Ext.setRow ?_ (by first | exact LeS.le | exact LeS.add _ | (simp; done) | (simp; omega)) _) | (with_reducible refine Ext.setCell ?_ (by first | exact LeS.le | exact LeS.add _ | (simp; done) | (simp; omega)) _)))
                clear hK K hHeld
                have hHeld := hHeld1; clear hHeld1
                try simp only [Act.put, List.setIfInBounds_toArray, List.set_cons_zero, List.set_cons_succ]
                refine wpAnyH_done (by kernel_rfl) ?_ _
                clear hmk
                go_wp2_with fail
                refine bodyPost_ret (v := .agg #[.slice q3 s.length d3, .slice q4 l.length d4, .slice none 0 0, .slice (some ⟨z4.val.heap.size, 0, none⟩) l.length l.length]) (by simp [results, Try.results29, go_sem]) rfl ?_
                have h3 := z3.ext.size
                have h4 := z4.ext.size
                simp at h3 h4
                refine ⟨_, _, _, _, s, l, [], List.replicate l.length zeroTS, rfl, (.of (by repeat (first | (with_reducible exact Ext.refl _) | (with_reducible refine Ext.up ?_ _) | (with_reducible refine Ext.alloc ?_ _) | (with_reducible refine Ext.drew ?_) | (with_reducible refine Ext.setRow ?_ (by first | exact LeS.le | exact LeS.add _ | (simp; done) | (simp; omega)) _) | (with_reducible refine Ext.setCell ?_ (by first | exact LeS.le | exact LeS.add _ | (simp; done) | (simp; omega)) _)))), ⟨Own.lo (lo := z2.val.heap.size) ?_ (by omega), Own.lo (lo := z2.val.heap.size) ?_ (by omega), Own.nil _ _ _ _ _, OSA.lo (lo := z2.val.heap.size) ?_ (by omega)⟩, rfl, by rw [List.length_replicate]; omega, by omega⟩
                · repeat (first | (with_reducible exact o3) | (with_reducible refine Own.setOld ?_ _ _ (by dsimp only; omega)) | (with_reducible refine Own.up ?_ (Extd.ext _)) | (with_reducible refine Own.alloc ?_))
                · repeat (first | (with_reducible exact o4) | (with_reducible refine Own.setOld ?_ _ _ (by dsimp only; omega)) | (with_reducible refine Own.up ?_ (Extd.ext _)) | (with_reducible refine Own.alloc ?_))
                · repeat (first | (with_reducible exact OSA.made HCS.out (by omega) (by simp) (by first | exact Nat.le_refl _ | (simp; done) | (simp; omega) | omega)) | (with_reducible refine OSA.setOld ?_ _ _ (by dsimp only; omega)) | (with_reducible refine OSA.alloc ?_ _) | (with_reducible refine OSA.drew ?_) | (with_reducible refine OSA.up ?_ (Extd.ext _)))
              exact AllReadyH.nil
            exact AllReadyH.nil
          refine AllReadyH.cons (opAt rfl) (fun K hK => ?_) ?_
          · go_simp
            refine hK.out _ _ ?_ (fun hHeld1 => ?_)
            · (try dsimp only)
              refine S_of_ext ?_
              exact (by repeat (first | (with_reducible exact Ext.refl _) | (with_reducible refine Ext.up ?_ _) | (with_reducible refine Ext.alloc ?_ _) | (with_reducible refine Ext.drew ?_) | (with_reducible refine Ext.setRow ?_ (by first | exact LeS.le | exact LeS.add _ | (simp; done) | (simp; omega)) _) | (with_reducible refine Ext.setCell ?_ (by first | exact LeS.le | exact LeS.add _ | (simp; done) | (simp; omega)) _)))
            clear hK K hHeld
            have hHeld := hHeld1; clear hHeld1
            try simp only [Act.put, List.setIfInBounds_toArray, List.set_cons_zero, List.set_cons_succ]
            refine wpAnyH_ready (rs := [5]) (by kernel_rfl) (by simp) ?_
            refine AllReadyH.cons (opAt rfl) (fun K hK => ?_) ?_
            · refine step_clone fActn Actn.enc Actn.enc_length (lo := z2.val.heap.size) l (by rfl) (.tmp 17) (.tmp 18) (by rfl) (by rfl) (by rfl) (by repeat (first | (with_reducible exact heap_alloc_new _ _) | (refine heap_alloc_at ?_; simp; done) | (with_reducible refine (Extd.row _ _).trans ?_) | (with_reducible refine (heap_alloc_old _ _ LtS.lt).trans ?_) | (with_reducible refine (drew_row _ _).trans ?_) | (with_reducible refine (heap_alloc_old _ _ (by omega)).trans ?_) | (with_reducible refine (Extd.row_lt _ (by omega)).trans ?_))) (by first | exact LeS.le | omega | (simp; done) | (simp; omega) | (have := z3.ext.size; simp at this; omega)) (HL.out.up (by repeat (first | (with_reducible exact Ext.refl _) | (with_reducible refine Ext.up ?_ _) | (with_reducible refine Ext.alloc ?_ _) | (with_reducible refine Ext.drew ?_) | (with_reducible refine Ext.setRow ?_ (by first | exact LeS.le | exact LeS.add _ | (simp; done) | (simp; omega)) _) | (with_reducible refine Ext.setCell ?_ (by first | exact LeS.le | exact LeS.add _ | (simp; done) | (simp; omega)) _)))) (oneAs _) (by omega) (by omega) ?_
              intro v4 z4 o4 b4
              obtain ⟨q4, d4, hv4, _, _⟩ := (o4.sl Actn.enc_length).openc
              subst hv4
              refine hK.out _ _ ?_ (fun hHeld1 => ?_)
              · (try dsimp only)
                refine S_of_ext ?_
                exact (by repeat (first | (with_reducible exact Ext.refl _) | (with_reducible refine Ext.up ?_ _) | (with_reducible refine Ext.alloc ?_ _) | (with_reducible refine Ext.drew ?_) | (with_reducible refine Ext.setRow ?_ (by first | exact LeS.le | exact LeS.add _ | (simp; done) | (simp; omega)) _) | (with_reducible refine Ext.setCell ?_ (by first | exact LeS.le | exact LeS.add _ | (simp; done) | (simp; omega)) _)))
              clear hK K hHeld
              have hHeld := hHeld1; clear hHeld1
              try simp only [Act.put, List.setIfInBounds_toArray, List.set_cons_zero, List.set_cons_succ]
              refine wpAnyH_take (i := 9) (v := ?_) (opAt rfl) (by kernel_rfl) (by kernel_rfl) (by kernel_rfl) (fun _ _ _ h => h) (Or.inl ⟨by rfl, ?_⟩) (by assumption) ?_
              rotate_left
              · (intro w hSw; (try dsimp only at hSw); go_simp) <;> with_reducible rfl
              try simp only [Act.put, List.setIfInBounds_toArray, List.set_cons_zero, List.set_cons_succ]
              refine wpAnyH_ready (rs := [10]) (by kernel_rfl) (by simp) ?_
              refine AllReadyH.cons (opAt rfl) (fun K hK => ?_) ?_
              · go_simp
                refine hK.out _ _ ?_ (fun hHeld1 => ?_)
                · (try dsimp only)
                  refine S_of_ext ?_
                  exact (by repeat (first | (with_reducible exact Ext.refl _) | (with_reducible refine Ext.up ?_ _) | (with_reducible refine Ext.alloc ?_ _) | (with_reducible refine Ext.drew ?_) | (with_reducible refine Ext.setRow ?_ (by first | exact LeS.le | exact LeS.add _ | (simp; done) | (simp; omega)) _) | (with_reducible refine Ext.setCell ?_ (by first | exact LeS.le | exact LeS.add _ | (simp; done) | (simp; omega)) _)))
                clear hK K hHeld
                have hHeld := hHeld1; clear hHeld1
                try simp only [Act.put, List.setIfInBounds_toArray, List.set_cons_zero, List.set_cons_succ]
                refine wpAnyH_done (by kernel_rfl) ?_ _
                clear hmk
                go_wp2_with fail
                refine bodyPost_ret (v := .agg #[.slice q3 s.length d3, .slice q4 l.length d4, .slice none 0 0, .slice (some ⟨z3.val.heap.size, 0, none⟩) l.length l.length]) (by simp [results, Try.results29, go_sem]) rfl ?_
                have h3 := z3.ext.size
                have h4 := z4.ext.size
                simp at h3 h4
                refine ⟨_, _, _, _, s, l, [], List.replicate l.length zeroTS, rfl, (.of (by repeat (first | (with_reducible exact Ext.refl _) | (with_reducible refine Ext.up ?_ _) | (with_reducible refine Ext.alloc ?_ _) | (with_reducible refine Ext.drew ?_) | (with_reducible refine Ext.setRow ?_ (by first | exact LeS.le | exact LeS.add _ | (simp; done) | (simp; omega)) _) | (with_reducible refine Ext.setCell ?_ (by first | exact LeS.le | exact LeS.add _ | (simp; done) | (simp; omega)) _)))), ⟨Own.lo (lo := z2.val.heap.size) ?_ (by omega), Own.lo (lo := z2.val.heap.size) ?_ (by omega), Own.nil _ _ _ _ _, OSA.lo (lo := z2.val.heap.size) ?_ (by omega)⟩, rfl, by rw [List.length_replicate]; omega, by omega⟩
                · repeat (first | (with_reducible exact o3) | (with_reducible refine Own.setOld ?_ _ _ (by dsimp only; omega)) | (with_reducible refine Own.up ?_ (Extd.ext _)) | (with_reducible refine Own.alloc ?_))
                · repeat (first | (with_reducible exact o4) | (with_reducible refine Own.setOld ?_ _ _ (by dsimp only; omega)) | (with_reducible refine Own.up ?_ (Extd.ext _)) | (with_reducible refine Own.alloc ?_))
                · repeat (first | (with_reducible exact OSA.made HCS.out (by omega) (by simp) (by first | exact Nat.le_refl _ | (simp; done) | (simp; omega) | omega)) | (with_reducible refine OSA.setOld ?_ _ _ (by dsimp only; omega)) | (with_reducible refine OSA.alloc ?_ _) | (with_reducible refine OSA.drew ?_) | (with_reducible refine OSA.up ?_ (Extd.ext _)))
              exact AllReadyH.nil
            exact AllReadyH.nil
          exact AllReadyH.nil
        refine AllReadyH.cons (opAt rfl) (fun K hK => ?_) ?_
        · go_simp
          refine hK.out _ _ ?_ (fun hHeld1 => ?_)
          · (try dsimp only)
            refine S_of_ext ?_
            exact (by repeat (first | (with_reducible exact Ext.refl _) | (with_reducible refine Ext.up ?_ _) | (with_reducible refine Ext.alloc ?_ _) | (with_reducible refine Ext.drew ?_) | (with_reducible refine Ext.setRow ?_ (by first | exact LeS.le | exact LeS.add _ | (simp; done) | (simp; omega)) _) | (with_reducible refine Ext.setCell ?_ (by first | exact LeS.le | exact LeS.add _ | (simp; done) | (simp; omega)) _)))
          clear hK K hHeld
          have hHeld := hHeld1; clear hHeld1
          try simp only [Act.put, List.setIfInBounds_toArray, List.set_cons_zero, List.set_cons_succ]
          refine wpAnyH_ready (rs := [2]) (by kernel_rfl) (by simp) ?_
          refine AllReadyH.cons (opAt rfl) (fun K hK => ?_) ?_
          · refine step_clone fEnt Ent.enc Ent.enc_length (lo := z2.val.heap.size) s (by rfl) (.tmp 14) (.tmp 15) (by rfl) (by rfl) (by rfl) (by repeat (first | (with_reducible exact heap_alloc_new _ _) | (refine heap_alloc_at ?_; simp; done) | (with_reducible refine (Extd.row _ _).trans ?_) | (with_reducible refine (heap_alloc_old _ _ LtS.lt).trans ?_) | (with_reducible refine (drew_row _ _).trans ?_) | (with_reducible refine (heap_alloc_old _ _ (by omega)).trans ?_) | (with_reducible refine (Extd.row_lt _ (by omega)).trans ?_))) (by first | exact LeS.le | omega | (simp; done) | (simp; omega) | (have := z3.ext.size; simp at this; omega)) (H.out.up (by repeat (first | (with_reducible exact Ext.refl _) | (with_reducible refine Ext.up ?_ _) | (with_reducible refine Ext.alloc ?_ _) | (with_reducible refine Ext.drew ?_) | (with_reducible refine Ext.setRow ?_ (by first | exact LeS.le | exact LeS.add _ | (simp; done) | (simp; omega)) _) | (with_reducible refine Ext.setCell ?_ (by first | exact LeS.le | exact LeS.add _ | (simp; done) | (simp; omega)) _)))) (oneEs' _) (by omega) (by omega) ?_
            intro v3 z3 o3 b3
            obtain ⟨q3, d3, hv3, _, _⟩ := (o3.sl Ent.enc_length).openc
            subst hv3
            refine hK.out _ _ ?_ (fun hHeld1 => ?_)
            · (try dsimp only)
              refine S_of_ext ?_
              exact (by repeat (first | (with_reducible exact Ext.refl _) | (with_reducible refine Ext.up ?_ _) | (with_reducible refine Ext.alloc ?_ _) | (with_reducible refine Ext.drew ?_) | (with_reducible refine Ext.setRow ?_ (by first | exact LeS.le | exact LeS.add _ | (simp; done) | (simp; omega)) _) | (with_reducible refine Ext.setCell ?_ (by first | exact LeS.le | exact LeS.add _ | (simp; done) | (simp; omega)) _)))
            clear hK K hHeld
            have hHeld := hHeld1; clear hHeld1
            try simp only [Act.put, List.setIfInBounds_toArray, List.set_cons_zero, List.set_cons_succ]
            refine wpAnyH_ready (rs := [5]) (by kernel_rfl) (by simp) ?_
            refine AllReadyH.cons (opAt rfl) (fun K hK => ?_) ?_
            · refine step_clone fActn Actn.enc Actn.enc_length (lo := z2.val.heap.size) l (by rfl) (.tmp 17) (.tmp 18) (by rfl) (by rfl) (by rfl) (by repeat (first | (with_reducible exact heap_alloc_new _ _) | (refine heap_alloc_at ?_; simp; done) | (with_reducible refine (Extd.row _ _).trans ?_) | (with_reducible refine (heap_alloc_old _ _ LtS.lt).trans ?_) | (with_reducible refine (drew_row _ _).trans ?_) | (with_reducible refine (heap_alloc_old _ _ (by omega)).trans ?_) | (with_reducible refine (Extd.row_lt _ (by omega)).trans ?_))) (by first | exact LeS.le | omega | (simp; done) | (simp; omega) | (have := z3.ext.size; simp at this; omega)) (HL.out.up (by repeat (first | (with_reducible exact Ext.refl _) | (with_reducible refine Ext.up ?_ _) | (with_reducible refine Ext.alloc ?_ _) | (with_reducible refine Ext.drew ?_) | (with_reducible refine Ext.setRow ?_ (by first | exact LeS.le | exact LeS.add _ | (simp; done) | (simp; omega)) _) | (with_reducible refine Ext.setCell ?_ (by first | exact LeS.le | exact LeS.add _ | (simp; done) | (simp; omega)) _)))) (oneAs _) (by omega) (by omega) ?_
              intro v4 z4 o4 b4
              obtain ⟨q4, d4, hv4, _, _⟩ := (o4.sl Actn.enc_length).openc
              subst hv4
              refine hK.out _ _ ?_ (fun hHeld1 => ?_)
              · (try dsimp only)
                refine S_of_ext ?_
                exact (by repeat (first | (with_reducible exact Ext.refl _) | (with_reducible refine Ext.up ?_ _) | (with_reducible refine Ext.alloc ?_ _) | (with_reducible refine Ext.drew ?_) | (with_reducible refine Ext.setRow ?_ (by first | exact LeS.le | exact LeS.add _ | (simp; done) | (simp; omega)) _) | (with_reducible refine Ext.setCell ?_ (by first | exact LeS.le | exact LeS.add _ | (simp; done) | (simp; omega)) _)))
              clear hK K hHeld
              have hHeld := hHeld1; clear hHeld1
              try simp only [Act.put, List.setIfInBounds_toArray, List.set_cons_zero, List.set_cons_succ]
              refine wpAnyH_take (i := 9) (v := ?_) (opAt rfl) (by kernel_rfl) (by kernel_rfl) (by kernel_rfl) (fun _ _ _ h => h) (Or.inl ⟨by rfl, ?_⟩) (by assumption) ?_
              rotate_left
              · (intro w hSw; (try dsimp only at hSw); go_simp) <;> with_reducible rfl
              try simp only [Act.put, List.setIfInBounds_toArray, List.set_cons_zero, List.set_cons_succ]
              refine wpAnyH_ready (rs := [10]) (by kernel_rfl) (by simp) ?_
              refine AllReadyH.cons (opAt rfl) (fun K hK => ?_) ?_
              · go_simp
                refine hK.out _ _ ?_ (fun hHeld1 => ?_)
                · (try dsimp only)
                  refine S_of_ext ?_
                  exact (by repeat (first | (with_reducible exact Ext.refl _) | (with_reducible refine Ext.up ?_ _) | (with_reducible refine Ext.alloc ?_ _) | (with_reducible refine Ext.drew ?_) | (with_reducible refine Ext.setRow ?_ (by first | exact LeS.le | exact LeS.add _ | (simp; done) | (simp; omega)) _) | (with_reducible refine Ext.setCell ?_ (by first | exact LeS.le | exact LeS.add _ | (simp; done) | (simp; omega)) _)))
                clear hK K hHeld
                have hHeld := hHeld1; clear hHeld1
                try simp only [Act.put, List.setIfInBounds_toArray, List.set_cons_zero, List.set_cons_succ]
                refine wpAnyH_done (by kernel_rfl) ?_ _
                clear hmk
                go_wp2_with fail
                refine bodyPost_ret (v := .agg #[.slice q3 s.length d3, .slice q4 l.length d4, .slice none 0 0, .slice (some ⟨z2.val.heap.size + 1 + 1, 0, none⟩) l.length l.length]) (by simp [results, Try.results29, go_sem]) rfl ?_
                have h3 := z3.ext.size
                have h4 := z4.ext.size
                simp at h3 h4
                refine ⟨_, _, _, _, s, l, [], List.replicate l.length zeroTS, rfl, (.of (by repeat (first | (with_reducible exact Ext.refl _) | (with_reducible refine Ext.up ?_ _) | (with_reducible refine Ext.alloc ?_ _) | (with_reducible refine Ext.drew ?_) | (with_reducible refine Ext.setRow ?_ (by first | exact LeS.le | exact LeS.add _ | (simp; done) | (simp; omega)) _) | (with_reducible refine Ext.setCell ?_ (by first | exact LeS.le | exact LeS.add _ | (simp; done) | (simp; omega)) _)))), ⟨Own.lo (lo := z2.val.heap.size) ?_ (by omega), Own.lo (lo := z2.val.heap.size) ?_ (by omega), Own.nil _ _ _ _ _, OSA.lo (lo := z2.val.heap.size) ?_ (by omega)⟩, rfl, by rw [List.length_replicate]; omega, by omega⟩
                · repeat (first | (with_reducible exact o3) | (with_reducible refine Own.setOld ?_ _ _ (by dsimp only; omega)) | (with_reducible refine Own.up ?_ (Extd.ext _)) | (with_reducible refine Own.alloc ?_))
                · repeat (first | (with_reducible exact o4) | (with_reducible refine Own.setOld ?_ _ _ (by dsimp only; omega)) | (with_reducible refine Own.up ?_ (Extd.ext _)) | (with_reducible refine Own.alloc ?_))
                · repeat (first | (with_reducible exact OSA.made HCS.out (by omega) (by simp) (by first | exact Nat.le_refl _ | (simp; done) | (simp; omega) | omega)) | (with_reducible refine OSA.setOld ?_ _ _ (by dsimp only; omega)) | (with_reducible refine OSA.alloc ?_ _) | (with_reducible refine OSA.drew ?_) | (with_reducible refine OSA.up ?_ (Extd.ext _)))
              exact AllReadyH.nil
            exact AllReadyH.nil
          exact AllReadyH.nil
        exact AllReadyH.nil
      refine AllReadyH.cons (opAt rfl) (fun K hK => ?_) ?_
      · go_simp
        refine hK.out _ _ ?_ (fun hHeld1 => ?_)
        · (try dsimp only)
          refine S_of_ext ?_
          exact (by repeat (first | (with_reducible exact Ext.refl _) | (with_reducible refine Ext.up ?_ _) | (with_reducible refine Ext.alloc ?_ _) | (with_reducible refine Ext.drew ?_) | (with_reducible refine Ext.setRow ?_ (by first | exact LeS.le | exact LeS.add _ | (simp; done) | (simp; omega)) _) | (with_reducible refine Ext.setCell ?_ (by first | exact LeS.le | exact LeS.add _ | (simp; done) | (simp; omega)) _)))
        clear hK K hHeld
        have hHeld := hHeld1; clear hHeld1
        try simp only [Act.put, List.setIfInBounds_toArray, List.set_cons_zero, List.set_cons_succ]
        refine wpAnyH_ready (rs := [0]) (by kernel_rfl) (by simp) ?_
        refine AllReadyH.cons (opAt rfl) (fun K hK => ?_) ?_
        · go_simp
          refine hK.out _ _ ?_ (fun hHeld1 => ?_)
          · (try dsimp only)
            refine S_of_ext ?_
            exact (by repeat (first | (with_reducible exact Ext.refl _) | (with_reducible refine Ext.up ?_ _) | (with_reducible refine Ext.alloc ?_ _) | (with_reducible refine Ext.drew ?_) | (with_reducible refine Ext.setRow ?_ (by first | exact LeS.le | exact LeS.add _ | (simp; done) | (simp; omega)) _) | (with_reducible refine Ext.setCell ?_ (by first | exact LeS.le | exact LeS.add _ | (simp; done) | (simp; omega)) _)))
          clear hK K hHeld
          have hHeld := hHeld1; clear hHeld1
          try simp only [Act.put, List.setIfInBounds_toArray, List.set_cons_zero, List.set_cons_succ]
          refine wpAnyH_ready (rs := [2]) (by kernel_rfl) (by simp) ?_
          refine AllReadyH.cons (opAt rfl) (fun K hK => ?_) ?_
          · refine step_clone fEnt Ent.enc Ent.enc_length (lo := z2.val.heap.size) s (by rfl) (.tmp 14) (.tmp 15) (by rfl) (by rfl) (by rfl) (by repeat (first | (with_reducible exact heap_alloc_new _ _) | (refine heap_alloc_at ?_; simp; done) | (with_reducible refine (Extd.row _ _).trans ?_) | (with_reducible refine (heap_alloc_old _ _ LtS.lt).trans ?_) | (with_reducible refine (drew_row _ _).trans ?_) | (with_reducible refine (heap_alloc_old _ _ (by omega)).trans ?_) | (with_reducible refine (Extd.row_lt _ (by omega)).trans ?_))) (by first | exact LeS.le | omega | (simp; done) | (simp; omega) | (have := z3.ext.size; simp at this; omega)) (H.out.up (by repeat (first | (with_reducible exact Ext.refl _) | (with_reducible refine Ext.up ?_ _) | (with_reducible refine Ext.alloc ?_ _) | (with_reducible refine Ext.drew ?_) | (with_reducible refine Ext.setRow ?_ (by first | exact LeS.le | exact LeS.add _ | (simp; done) | (simp; omega)) _) | (with_reducible refine Ext.setCell ?_ (by first | exact LeS.le | exact LeS.add _ | (simp; done) | (simp; omega)) _)))) (oneEs' _) (by omega) (by omega) ?_
            intro v3 z3 o3 b3
            obtain ⟨q3, d3, hv3, _, _⟩ := (o3.sl Ent.enc_length).openc
            subst hv3
            refine hK.out _ _ ?_ (fun hHeld1 => ?_)
            · (try dsimp only)
              refine S_of_ext ?_
              exact (by repeat (first | (with_reducible exact Ext.refl _) | (with_reducible refine Ext.up ?_ _) | (with_reducible refine Ext.alloc ?_ _) | (with_reducible refine Ext.drew ?_) | (with_reducible refine Ext.setRow ?_ (by first | exact LeS.le | exact LeS.add _ | (simp; done) | (simp; omega)) _) | (with_reducible refine Ext.setCell ?_ (by first | exact LeS.le | exact LeS.add _ | (simp; done) | (simp; omega)) _)))
            clear hK K hHeld
            have hHeld := hHeld1; clear hHeld1
            try simp only [Act.put, List.setIfInBounds_toArray, List.set_cons_zero, List.set_cons_succ]
            refine wpAnyH_ready (rs := [5]) (by kernel_rfl) (by simp) ?_
            refine AllReadyH.cons (opAt rfl) (fun K hK => ?_) ?_
            · refine step_clone fActn Actn.enc Actn.enc_length (lo := z2.val.heap.size) l (by rfl) (.tmp 17) (.tmp 18) (by rfl) (by rfl) (by rfl) (by repeat (first | (with_reducible exact heap_alloc_new _ _) | (refine heap_alloc_at ?_; simp; done) | (with_reducible refine (Extd.row _ _).trans ?_) | (with_reducible refine (heap_alloc_old _ _ LtS.lt).trans ?_) | (with_reducible refine (drew_row _ _).trans ?_) | (with_reducible refine (heap_alloc_old _ _ (by omega)).trans ?_) | (with_reducible refine (Extd.row_lt _ (by omega)).trans ?_))) (by first | exact LeS.le | omega | (simp; done) | (simp; omega) | (have := z3.ext.size; simp at this; omega)) (HL.out.up (by repeat (first | (with_reducible exact Ext.refl _) | (with_reducible refine Ext.up ?_ _) | (with_reducible refine Ext.alloc ?_ _) | (with_reducible refine Ext.drew ?_) | (with_reducible refine Ext.setRow ?_ (by first | exact LeS.le | exact LeS.add _ | (simp; done) | (simp; omega)) _) | (with_reducible refine Ext.setCell ?_ (by first | exact LeS.le | exact LeS.add _ | (simp; done) | (simp; omega)) _)))) (oneAs _) (by omega) (by omega) ?_
              intro v4 z4 o4 b4
              obtain ⟨q4, d4, hv4, _, _⟩ := (o4.sl Actn.enc_length).openc
              subst hv4
              refine hK.out _ _ ?_ (fun hHeld1 => ?_)
              · (try dsimp only)
                refine S_of_ext ?_
                exact (by repeat (first | (with_reducible exact Ext.refl _) | (with_reducible refine Ext.up ?_ _) | (with_reducible refine Ext.alloc ?_ _) | (with_reducible refine Ext.drew ?_) | (with_reducible refine Ext.setRow ?_ (by first | exact LeS.le | exact LeS.add _ | (simp; done) | (simp; omega)) _) | (with_reducible refine Ext.setCell ?_ (by first | exact LeS.le | exact LeS.add _ | (simp; done) | (simp; omega)) _)))
              clear hK K hHeld
              have hHeld := hHeld1; clear hHeld1
              try simp only [Act.put, List.setIfInBounds_toArray, List.set_cons_zero, List.set_cons_succ]
              refine wpAnyH_take (i := 9) (v := ?_) (opAt rfl) (by kernel_rfl) (by kernel_rfl) (by kernel_rfl) (fun _ _ _ h => h) (Or.inl ⟨by rfl, ?_⟩) (by assumption) ?_
              rotate_left
              · (intro w hSw; (try dsimp only at hSw); go_simp) <;> with_reducible rfl
              try simp only [Act.put, List.setIfInBounds_toArray, List.set_cons_zero, List.set_cons_succ]
              refine wpAnyH_ready (rs := [10]) (by kernel_rfl) (by simp) ?_
              refine AllReadyH.cons (opAt rfl) (fun K hK => ?_) ?_
              · go_simp
                refine hK.out _ _ ?_ (fun hHeld1 => ?_)
                · (try dsimp only)
                  refine S_of_ext ?_
                  exact (by repeat (first | (with_reducible exact Ext.refl _) | (with_reducible refine Ext.up ?_ _) | (with_reducible refine Ext.alloc ?_ _) | (with_reducible refine Ext.drew ?_) | (with_reducible refine Ext.setRow ?_ (by first | exact LeS.le | exact LeS.add _ | (simp; done) | (simp; omega)) _) | (with_reducible refine Ext.setCell ?_ (by first | exact LeS.le | exact LeS.add _ | (simp; done) | (simp; omega)) _)))
                clear hK K hHeld
                have hHeld := hHeld1; clear hHeld1
                try simp only [Act.put, List.setIfInBounds_toArray, List.set_cons_zero, List.set_cons_succ]
                refine wpAnyH_done (by kernel_rfl) ?_ _
                clear hmk
                go_wp2_with fail
                refine bodyPost_ret (v := .agg #[.slice q3 s.length d3, .slice q4 l.length d4, .slice none 0 0, .slice (some ⟨z2.val.heap.size + 1, 0, none⟩) l.length l.length]) (by simp [results, Try.results29, go_sem]) rfl ?_
                have h3 := z3.ext.size
                have h4 := z4.ext.size
                simp at h3 h4
                refine ⟨_, _, _, _, s, l, [], List.replicate l.length zeroTS, rfl, (.of (by repeat (first | (with_reducible exact Ext.refl _) | (with_reducible refine Ext.up ?_ _) | (with_reducible refine Ext.alloc ?_ _) | (with_reducible refine Ext.drew ?_) | (with_reducible refine Ext.setRow ?_ (by first | exact LeS.le | exact LeS.add _ | (simp; done) | (simp; omega)) _) | (with_reducible refine Ext.setCell ?_ (by first | exact LeS.le | exact LeS.add _ | (simp; done) | (simp; omega)) _)))), ⟨Own.lo (lo := z2.val.heap.size) ?_ (by omega), Own.lo (lo := z2.val.heap.size) ?_ (by omega), Own.nil _ _ _ _ _, OSA.lo (lo := z2.val.heap.size) ?_ (by omega)⟩, rfl, by rw [List.length_replicate]; omega, by omega⟩
                · repeat (first | (with_reducible exact o3) | (with_reducible refine Own.setOld ?_ _ _ (by dsimp only; omega)) | (with_reducible refine Own.up ?_ (Extd.ext _)) | (with_reducible refine Own.alloc ?_))
                · repeat (first | (with_reducible exact o4) | (with_reducible refine Own.setOld ?_ _ _ (by dsimp only; omega)) | (with_reducible refine Own.up ?_ (Extd.ext _)) | (with_reducible refine Own.alloc ?_))
                · repeat (first | (with_reducible exact OSA.made HCS.out (by omega) (by simp) (by first | exact Nat.le_refl _ | (simp; done) | (simp; omega) | omega)) | (with_reducible refine OSA.setOld ?_ _ _ (by dsimp only; omega)) | (with_reducible refine OSA.alloc ?_ _) | (with_reducible refine OSA.drew ?_) | (with_reducible refine OSA.up ?_ (Extd.ext _)))
              exact AllReadyH.nil
            exact AllReadyH.nil
          exact AllReadyH.nil
        exact AllReadyH.nil
      exact AllReadyH.nil
    refine AllReadyH.cons (opAt rfl) (fun K hK => ?_) ?_
    · go_simp
      refine hK.out _ _ ?_ (fun hHeld1 => ?_)
      · (try dsimp only)
        refine S_of_ext ?_
        exact (by repeat (first | (with_reducible exact Ext.refl _) | (with_reducible refine Ext.up ?_ _) | (with_reducible refine Ext.alloc ?_ _) | (with_reducible refine Ext.drew ?_) | (with_reducible refine Ext.setRow ?_ (by first | exact LeS.le | exact LeS.add _ | (simp; done) | (simp; omega)) _) | (with_reducible refine Ext.setCell ?_ (by first | exact LeS.le | exact LeS.add _ | (simp; done) | (simp; omega)) _)))
      clear hK K hHeld
      have hHeld := hHeld1; clear hHeld1
      try simp only [Act.put, List.setIfInBounds_toArray, List.set_cons_zero, List.set_cons_succ]
      refine wpAnyH_ready (rs := [0, 3]) (by kernel_rfl) (by simp) ?_
      refine AllReadyH.cons (opAt rfl) (fun K hK => ?_) ?_
      · go_simp
        refine hK.out _ _ ?_ (fun hHeld1 => ?_)
        · (try dsimp only)
          refine S_of_ext ?_
          exact (by repeat (first | (with_reducible exact Ext.refl _) | (with_reducible refine Ext.up ?_ _) | (with_reducible refine Ext.alloc ?_ _) | (with_reducible refine Ext.drew ?_) | (with_reducible refine Ext.setRow ?_ (by first | exact LeS.le | exact LeS.add _ | (simp; done) | (simp; omega)) _) | (with_reducible refine Ext.setCell ?_ (by first | exact LeS.le | exact LeS.add _ | (simp; done) | (simp; omega)) _)))
        clear hK K hHeld
        have hHeld := hHeld1; clear hHeld1
        try simp only [Act.put, List.setIfInBounds_toArray, List.set_cons_zero, List.set_cons_succ]
        refine wpAnyH_ready (rs := [2, 3]) (by kernel_rfl) (by simp) ?_
        refine AllReadyH.cons (opAt rfl) (fun K hK => ?_) ?_
        · refine step_clone fEnt Ent.enc Ent.enc_length (lo := z2.val.heap.size) s (by rfl) (.tmp 14) (.tmp 15) (by rfl) (by rfl) (by rfl) (by repeat (first | (with_reducible exact heap_alloc_new _ _) | (refine heap_alloc_at ?_; simp; done) | (with_reducible refine (Extd.row _ _).trans ?_) | (with_reducible refine (heap_alloc_old _ _ LtS.lt).trans ?_) | (with_reducible refine (drew_row _ _).trans ?_) | (with_reducible refine (heap_alloc_old _ _ (by omega)).trans ?_) | (with_reducible refine (Extd.row_lt _ (by omega)).trans ?_))) (by first | exact LeS.le | omega | (simp; done) | (simp; omega) | (have := z3.ext.size; simp at this; omega)) (H.out.up (by repeat (first | (with_reducible exact Ext.refl _) | (with_reducible refine Ext.up ?_ _) | (with_reducible refine Ext.alloc ?_ _) | (with_reducible refine Ext.drew ?_) | (with_reducible refine Ext.setRow ?_ (by first | exact LeS.le | exact LeS.add _ | (simp; done) | (simp; omega)) _) | (with_reducible refine Ext.setCell ?_ (by first | exact LeS.le | exact LeS.add _ | (simp; done) | (simp; omega)) _)))) (oneEs' _) (by omega) (by omega) ?_
          intro v3 z3 o3 b3
          obtain ⟨q3, d3, hv3, _, _⟩ := (o3.sl Ent.enc_length).openc
          subst hv3
          refine hK.out _ _ ?_ (fun hHeld1 => ?_)
          · (try dsimp only)
            refine S_of_ext ?_
            exact (by repeat (first | (with_reducible exact Ext.refl _) | (with_reducible refine Ext.up ?_ _) | (with_reducible refine Ext.alloc ?_ _) | (with_reducible refine Ext.drew ?_) | (with_reducible refine Ext.setRow ?_ (by first | exact LeS.le | exact LeS.add _ | (simp; done) | (simp; omega)) _) | (with_reducible refine Ext.setCell ?_ (by first | exact LeS.le | exact LeS.add _ | (simp; done) | (simp; omega)) _)))
          clear hK K hHeld
          have hHeld := hHeld1; clear hHeld1
          try simp only [Act.put, List.setIfInBounds_toArray, List.set_cons_zero, List.set_cons_succ]
          refine wpAnyH_ready (rs := [3]) (by kernel_rfl) (by simp) ?_
          refine AllReadyH.cons (opAt rfl) (fun K hK => ?_) ?_
          · go_simp
            refine hK.out _ _ ?_ (fun hHeld1 => ?_)
            · (try dsimp only)
              refine S_of_ext ?_
              exact (by repeat (first | (with_reducible exact Ext.refl _) | (with_reducible refine Ext.up ?_ _) | (with_reducible refine Ext.alloc ?_ _) | (with_reducible refine Ext.drew ?_) | (with_reducible refine Ext.setRow ?_ (by first | exact LeS.le | exact LeS.add _ | (simp; done) | (simp; omega)) _) | (with_reducible refine Ext.setCell ?_ (by first | exact LeS.le | exact LeS.add _ | (simp; done) | (simp; omega)) _)))
            clear hK K hHeld
            have hHeld := hHeld1; clear hHeld1
            try simp only [Act.put, List.setIfInBounds_toArray, List.set_cons_zero, List.set_cons_succ]
            refine wpAnyH_ready (rs := [5]) (by kernel_rfl) (by simp) ?_
            refine AllReadyH.cons (opAt rfl) (fun K hK => ?_) ?_
            · refine step_clone fActn Actn.enc Actn.enc_length (lo := z2.val.heap.size) l (by rfl) (.tmp 17) (.tmp 18) (by rfl) (by rfl) (by rfl) (by repeat (first | (with_reducible exact heap_alloc_new _ _) | (refine heap_alloc_at ?_; simp; done) | (with_reducible refine (Extd.row _ _).trans ?_) | (with_reducible refine (heap_alloc_old _ _ LtS.lt).trans ?_) | (with_reducible refine (drew_row _ _).trans ?_) | (with_reducible refine (heap_alloc_old _ _ (by omega)).trans ?_) | (with_reducible refine (Extd.row_lt _ (by omega)).trans ?_))) (by first | exact LeS.le | omega | (simp; done) | (simp; omega) | (have := z3.ext.size; simp at this; omega)) (HL.out.up (by repeat (first | (with_reducible exact Ext.refl _) | (with_reducible refine Ext.up ?_ _) | (with_reducible refine Ext.alloc ?_ _) | (with_reducible refine Ext.drew ?_) | (with_reducible refine Ext.setRow ?_ (by first | exact LeS.le | exact LeS.add _ | (simp; done) | (simp; omega)) _) | (with_reducible refine Ext.setCell ?_ (by first | exact LeS.le | exact LeS.add _ | (simp; done) | (simp; omega)) _)))) (oneAs _) (by omega) (by omega) ?_
              intro v4 z4 o4 b4
              obtain ⟨q4, d4, hv4, _, _⟩ := (o4.sl Actn.enc_length).openc
              subst hv4
              refine hK.out _ _ ?_ (fun hHeld1 => ?_)
              · (try dsimp only)
                refine S_of_ext ?_
                exact (by repeat (first | (with_reducible exact Ext.refl _) | (with_reducible refine Ext.up ?_ _) | (with_reducible refine Ext.alloc ?_ _) | (with_reducible refine Ext.drew ?_) | (with_reducible refine Ext.setRow ?_ (by first | exact LeS.le | exact LeS.add _ | (simp; done) | (simp; omega)) _) | (with_reducible refine Ext.setCell ?_ (by first | exact LeS.le | exact LeS.add _ | (simp; done) | (simp; omega)) _)))
              clear hK K hHeld
              have hHeld := hHeld1; clear hHeld1
              try simp only [Act.put, List.setIfInBounds_toArray, List.set_cons_zero, List.set_cons_succ]
              refine wpAnyH_take (i := 9) (v := ?_) (opAt rfl) (by kernel_rfl) (by kernel_rfl) (by kernel_rfl) (fun _ _ _ h => h) (Or.inl ⟨by rfl, ?_⟩) (by assumption) ?_
              rotate_left
              · (intro w hSw; (try dsimp only at hSw); go_simp) <;> with_reducible rfl
              try simp only [Act.put, List.setIfInBounds_toArray, List.set_cons_zero, List.set_cons_succ]
              refine wpAnyH_ready (rs := [10]) (by kernel_rfl) (by simp) ?_
              refine AllReadyH.cons (opAt rfl) (fun K hK => ?_) ?_
              · go_simp
                refine hK.out _ _ ?_ (fun hHeld1 => ?_)
                · (try dsimp only)
                  refine S_of_ext ?_
                  exact (by repeat (first | (with_reducible exact Ext.refl _) | (with_reducible refine Ext.up ?_ _) | (with_reducible refine Ext.alloc ?_ _) | (with_reducible refine Ext.drew ?_) | (with_reducible refine Ext.setRow ?_ (by first | exact LeS.le | exact LeS.add _ | (simp; done) | (simp; omega)) _) | (with_reducible refine Ext.setCell ?_ (by first | exact LeS.le | exact LeS.add _ | (simp; done) | (simp; omega)) _)))
                clear hK K hHeld
                have hHeld := hHeld1; clear hHeld1
                try simp only [Act.put, List.setIfInBounds_toArray, List.set_cons_zero, List.set_cons_succ]
                refine wpAnyH_done (by kernel_rfl) ?_ _
                clear hmk
                go_wp2_with fail
                refine bodyPost_ret (v := .agg #[.slice q3 s.length d3, .slice q4 l.length d4, .slice none 0 0, .slice (some ⟨z2.val.heap.size, 0, none⟩) l.length l.length]) (by simp [results, Try.results29, go_sem]) rfl ?_
                have h3 := z3.ext.size
                have h4 := z4.ext.size
                simp at h3 h4
                refine ⟨_, _, _, _, s, l, [], List.replicate l.length zeroTS, rfl, (.of (by repeat (first | (with_reducible exact Ext.refl _) | (with_reducible refine Ext.up ?_ _) | (with_reducible refine Ext.alloc ?_ _) | (with_reducible refine Ext.drew ?_) | (with_reducible refine Ext.setRow ?_ (by first | exact LeS.le | exact LeS.add _ | (simp; done) | (simp; omega)) _) | (with_reducible refine Ext.setCell ?_ (by first | exact LeS.le | exact LeS.add _ | (simp; done) | (simp; omega)) _)))), ⟨Own.lo (lo := z2.val.heap.size) ?_ (by omega), Own.lo (lo := z2.val.heap.size) ?_ (by omega), Own.nil _ _ _ _ _, OSA.lo (lo := z2.val.heap.size) ?_ (by omega)⟩, rfl, by rw [List.length_replicate]; omega, by omega⟩
                · repeat (first | (with_reducible exact o3) | (with_reducible refine Own.setOld ?_ _ _ (by dsimp only; omega)) | (with_reducible refine Own.up ?_ (Extd.ext _)) | (with_reducible refine Own.alloc ?_))
                · repeat (first | (with_reducible exact o4) | (with_reducible refine Own.setOld ?_ _ _ (by dsimp only; omega)) | (with_reducible refine Own.up ?_ (Extd.ext _)) | (with_reducible refine Own.alloc ?_))
                · repeat (first | (with_reducible exact OSA.made HCS.out (by omega) (by simp) (by first | exact Nat.le_refl _ | (simp; done) | (simp; omega) | omega)) | (with_reducible refine OSA.setOld ?_ _ _ (by dsimp only; omega)) | (with_reducible refine OSA.alloc ?_ _) | (with_reducible refine OSA.drew ?_) | (with_reducible refine OSA.up ?_ (Extd.ext _)))
              exact AllReadyH.nil
            exact AllReadyH.nil
          exact AllReadyH.nil
        refine AllReadyH.cons (opAt rfl) (fun K hK => ?_) ?_
        · go_simp
          refine hK.out _ _ ?_ (fun hHeld1 => ?_)
          · (try dsimp only)
            refine S_of_ext ?_
            exact (by repeat (first | (with_reducible exact Ext.refl _) | (with_reducible refine Ext.up ?_ _) | (with_reducible refine Ext.alloc ?_ _) | (with_reducible refine Ext.drew ?_) | (with_reducible refine Ext.setRow ?_ (by first | exact LeS.le | exact LeS.add _ | (simp; done) | (simp; omega)) _) | (with_reducible refine Ext.setCell ?_ (by first | exact LeS.le | exact LeS.add _ | (simp; done) | (simp; omega)) _)))
          clear hK K hHeld
          have hHeld := hHeld1; clear hHeld1
          try simp only [Act.put, List.setIfInBounds_toArray, List.set_cons_zero, List.set_cons_succ]
          refine wpAnyH_ready (rs := [2]) (by kernel_rfl) (by simp) ?_
          refine AllReadyH.cons (opAt rfl) (fun K hK => ?_) ?_
          · refine step_clone fEnt Ent.enc Ent.enc_length (lo := z2.val.heap.size) s (by rfl) (.tmp 14) (.tmp 15) (by rfl) (by rfl) (by rfl) (by repeat (first | (with_reducible exact heap_alloc_new _ _) | (refine heap_alloc_at ?_; simp; done) | (with_reducible refine (Extd.row _ _).trans ?_) | (with_reducible refine (heap_alloc_old _ _ LtS.lt).trans ?_) | (with_reducible refine (drew_row _ _).trans ?_) | (with_reducible refine (heap_alloc_old _ _ (by omega)).trans ?_) | (with_reducible refine (Extd.row_lt _ (by omega)).trans ?_))) (by first | exact LeS.le | omega | (simp; done) | (simp; omega) | (have := z3.ext.size; simp at this; omega)) (H.out.up (by repeat (first | (with_reducible exact Ext.refl _) | (with_reducible refine Ext.up ?_ _) | (with_reducible refine Ext.alloc ?_ _) | (with_reducible refine Ext.drew ?_) | (with_reducible refine Ext.setRow ?_ (by first | exact LeS.le | exact LeS.add _ | (simp; done) | (simp; omega)) _) | (with_reducible refine Ext.setCell ?_ (by first | exact LeS.le | exact LeS.add _ | (simp; done) | (simp; omega)) _)))) (oneEs' _) (by omega) (by omega) ?_
            intro v3 z3 o3 b3
            obtain ⟨q3, d3, hv3, _, _⟩ := (o3.sl Ent.enc_length).openc
            subst hv3
            refine hK.out _ _ ?_ (fun hHeld1 => ?_)
            · (try dsimp only)
              refine S_of_ext ?_
              exact (by repeat (first | (with_reducible exact Ext.refl _) | (with_reducible refine Ext.up ?_ _) | (with_reducible refine Ext.alloc ?_ _) | (with_reducible refine Ext.drew ?_) | (with_reducible refine Ext.setRow ?_ (by first | exact LeS.le | exact LeS.add _ | (simp; done) | (simp; omega)) _) | (with_reducible refine Ext.setCell ?_ (by first | exact LeS.le | exact LeS.add _ | (simp; done) | (simp; omega)) _)))
            clear hK K hHeld
            have hHeld := hHeld1; clear hHeld1
            try simp only [Act.put, List.setIfInBounds_toArray, List.set_cons_zero, List.set_cons_succ]
            refine wpAnyH_ready (rs := [5]) (by kernel_rfl) (by simp) ?_
            refine AllReadyH.cons (opAt rfl) (fun K hK => ?_) ?_
            · refine step_clone fActn Actn.enc Actn.enc_length (lo := z2.val.heap.size) l (by rfl) (.tmp 17) (.tmp 18) (by rfl) (by rfl) (by rfl) (by repeat (first | (with_reducible exact heap_alloc_new _ _) | (refine heap_alloc_at ?_; simp; done) | (with_reducible refine (Extd.row _ _).trans ?_) | (with_reducible refine (heap_alloc_old _ _ LtS.lt).trans ?_) | (with_reducible refine (drew_row _ _).trans ?_) | (with_reducible refine (heap_alloc_old _ _ (by omega)).trans ?_) | (with_reducible refine (Extd.row_lt _ (by omega)).trans ?_))) (by first | exact LeS.le | omega | (simp; done) | (simp; omega) | (have := z3.ext.size; simp at this; omega)) (HL.out.up (by repeat (first | (with_reducible exact Ext.refl _) | (with_reducible refine Ext.up ?_ _) | (with_reducible refine Ext.alloc ?_ _) | (with_reducible refine Ext.drew ?_) | (with_reducible refine Ext.setRow ?_ (by first | exact LeS.le | exact LeS.add _ | (simp; done) | (simp; omega)) _) | (with_reducible refine Ext.setCell ?_ (by first | exact LeS.le | exact LeS.add _ | (simp; done) | (simp; omega)) _)))) (oneAs _) (by omega) (by omega) ?_
              intro v4 z4 o4 b4
              obtain ⟨q4, d4, hv4, _, _⟩ := (o4.sl Actn.enc_length).openc
              subst hv4
              refine hK.out _ _ ?_ (fun hHeld1 => ?_)
              · (try dsimp only)
                refine S_of_ext ?_
                exact (by repeat (first | (with_reducible exact Ext.refl _) | (with_reducible refine Ext.up ?_ _) | (with_reducible refine Ext.alloc ?_ _) | (with_reducible refine Ext.drew ?_) | (with_reducible refine Ext.setRow ?_ (by first | exact LeS.le | exact LeS.add _ | (simp; done) | (simp; omega)) _) | (with_reducible refine Ext.setCell ?_ (by first | exact LeS.le | exact LeS.add _ | (simp; done) | (simp; omega)) _)))
              clear hK K hHeld
              have hHeld := hHeld1; clear hHeld1
              try simp only [Act.put, List.setIfInBounds_toArray, List.set_cons_zero, List.set_cons_succ]
              refine wpAnyH_take (i := 9) (v := ?_) (opAt rfl) (by kernel_rfl) (by kernel_rfl) (by kernel_rfl) (fun _ _ _ h => h) (Or.inl ⟨by rfl, ?_⟩) (by assumption) ?_
              rotate_left
              · (intro w hSw; (try dsimp only at hSw); go_simp) <;> with_reducible rfl
              try simp only [Act.put, List.setIfInBounds_toArray, List.set_cons_zero, List.set_cons_succ]
              refine wpAnyH_ready (rs := [10]) (by kernel_rfl) (by simp) ?_
              refine AllReadyH.cons (opAt rfl) (fun K hK => ?_) ?_
              · go_simp
                refine hK.out _ _ ?_ (fun hHeld1 => ?_)
                · (try dsimp only)
                  refine S_of_ext ?_
                  exact (by repeat (first | (with_reducible exact Ext.refl _) | (with_reducible refine Ext.up ?_ _) | (with_reducible refine Ext.alloc ?_ _) | (with_reducible refine Ext.drew ?_) | (with_reducible refine Ext.setRow ?_ (by first | exact LeS.le | exact LeS.add _ | (simp; done) | (simp; omega)) _) | (with_reducible refine Ext.setCell ?_ (by first | exact LeS.le | exact LeS.add _ | (simp; done) | (simp; omega)) _)))
                clear hK K hHeld
                have hHeld := hHeld1; clear hHeld1
                try simp only [Act.put, List.setIfInBounds_toArray, List.set_cons_zero, List.set_cons_succ]
                refine wpAnyH_done (by kernel_rfl) ?_ _
                clear hmk
                go_wp2_with fail
                refine bodyPost_ret (v := .agg #[.slice q3 s.length d3, .slice q4 l.length d4, .slice none 0 0, .slice (some ⟨z2.val.heap.size, 0, none⟩) l.length l.length]) (by simp [results, Try.results29, go_sem]) rfl ?_
                have h3 := z3.ext.size
                have h4 := z4.ext.size
                simp at h3 h4
                refine ⟨_, _, _, _, s, l, [], List.replicate l.length zeroTS, rfl, (.of (by repeat (first | (with_reducible exact Ext.refl _) | (with_reducible refine Ext.up ?_ _) | (with_reducible refine Ext.alloc ?_ _) | (with_reducible refine Ext.drew ?_) | (with_reducible refine Ext.setRow ?_ (by first | exact LeS.le | exact LeS.add _ | (simp; done) | (simp; omega)) _) | (with_reducible refine Ext.setCell ?_ (by first | exact LeS.le | exact LeS.add _ | (simp; done) | (simp; omega)) _)))), ⟨Own.lo (lo := z2.val.heap.size) ?_ (by omega), Own.lo (lo := z2.val.heap.size) ?_ (by omega), Own.nil _ _ _ _ _, OSA.lo (lo := z2.val.heap.size) ?_ (by omega)⟩, rfl, by rw [List.length_replicate]; omega, by omega⟩
                · repeat (first | (with_reducible exact o3) | (with_reducible refine Own.setOld ?_ _ _ (by dsimp only; omega)) | (with_reducible refine Own.up ?_ (Extd.ext _)) | (with_reducible refine Own.alloc ?_))
                · repeat (first | (with_reducible exact o4) | (with_reducible refine Own.setOld ?_ _ _ (by dsimp only; omega)) | (with_reducible refine Own.up ?_ (Extd.ext _)) | (with_reducible refine Own.alloc ?_))
                · repeat (first | (with_reducible exact OSA.made HCS.out (by omega) (by simp) (by first | exact Nat.le_refl _ | (simp; done) | (simp; omega) | omega)) | (with_reducible refine OSA.setOld ?_ _ _ (by dsimp only; omega)) | (with_reducible refine OSA.alloc ?_ _) | (with_reducible refine OSA.drew ?_) | (with_reducible refine OSA.up ?_ (Extd.ext _)))
              exact AllReadyH.nil
            exact AllReadyH.nil
          exact AllReadyH.nil
        exact AllReadyH.nil
      refine AllReadyH.cons (opAt rfl) (fun K hK => ?_) ?_
      · go_simp
        refine hK.out _ _ ?_ (fun hHeld1 => ?_)
        · (try dsimp only)
          refine S_of_ext ?_
          exact (by repeat (first | (with_reducible exact Ext.refl _) | (with_reducible refine Ext.up ?_ _) | (with_reducible refine Ext.alloc ?_ _) | (with_reducible refine Ext.drew ?_) | (with_reducible refine Ext.setRow ?_ (by first | exact LeS.le | exact LeS.add _ | (simp; done) | (simp; omega)) _) | (with_reducible refine Ext.setCell ?_ (by first | exact LeS.le | exact LeS.add _ | (simp; done) | (simp; omega)) _)))
        clear hK K hHeld
        have hHeld := hHeld1; clear hHeld1
        try simp only [Act.put, List.setIfInBounds_toArray, List.set_cons_zero, List.set_cons_succ]
        refine wpAnyH_ready (rs := [0]) (by kernel_rfl) (by simp) ?_
        refine AllReadyH.cons (opAt rfl) (fun K hK => ?_) ?_
        · go_simp
          refine hK.out _ _ ?_ (fun hHeld1 => ?_)
          · (try dsimp only)
            refine S_of_ext ?_
            exact (by repeat (first | (with_reducible exact Ext.refl _) | (with_reducible refine Ext.up ?_ _) | (with_reducible refine Ext.alloc ?_ _) | (with_reducible refine Ext.drew ?_) | (with_reducible refine Ext.setRow ?_ (by first | exact LeS.le | exact LeS.add _ | (simp; done) | (simp; omega)) _) | (with_reducible refine Ext.setCell ?_ (by first | exact LeS.le | exact LeS.add _ | (simp; done) | (simp; omega)) _)))
          clear hK K hHeld
          have hHeld := hHeld1; clear hHeld1
          try simp only [Act.put, List.setIfInBounds_toArray, List.set_cons_zero, List.set_cons_succ]
          refine wpAnyH_ready (rs := [2]) (by kernel_rfl) (by simp) ?_
          refine AllReadyH.cons (opAt rfl) (fun K hK => ?_) ?_
          · refine step_clone fEnt Ent.enc Ent.enc_length (lo := z2.val.heap.size) s (by rfl) (.tmp 14) (.tmp 15) (by rfl) (by rfl) (by rfl) (by repeat (first | (with_reducible exact heap_alloc_new _ _) | (refine heap_alloc_at ?_; simp; done) | (with_reducible refine (Extd.row _ _).trans ?_) | (with_reducible refine (heap_alloc_old _ _ LtS.lt).trans ?_) | (with_reducible refine (drew_row _ _).trans ?_) | (with_reducible refine (heap_alloc_old _ _ (by omega)).trans ?_) | (with_reducible refine (Extd.row_lt _ (by omega)).trans ?_))) (by first | exact LeS.le | omega | (simp; done) | (simp; omega) | (have := z3.ext.size; simp at this; omega)) (H.out.up (by repeat (first | (with_reducible exact Ext.refl _) | (with_reducible refine Ext.up ?_ _) | (with_reducible refine Ext.alloc ?_ _) | (with_reducible refine Ext.drew ?_) | (with_reducible refine Ext.setRow ?_ (by first | exact LeS.le | exact LeS.add _ | (simp; done) | (simp; omega)) _) | (with_reducible refine Ext.setCell ?_ (by first | exact LeS.le | exact LeS.add _ | (simp; done) | (simp; omega)) _)))) (oneEs' _) (by omega) (by omega) ?_
            intro v3 z3 o3 b3
            obtain ⟨q3, d3, hv3, _, _⟩ := (o3.sl Ent.enc_length).openc
            subst hv3
            refine hK.out _ _ ?_ (fun hHeld1 => ?_)
            · (try dsimp only)
              refine S_of_ext ?_
              exact (by repeat (first | (with_reducible exact Ext.refl _) | (with_reducible refine Ext.up ?_ _) | (with_reducible refine Ext.alloc ?_ _) | (with_reducible refine Ext.drew ?_) | (with_reducible refine Ext.setRow ?_ (by first | exact LeS.le | exact LeS.add _ | (simp; done) | (simp; omega)) _) | (with_reducible refine Ext.setCell ?_ (by first | exact LeS.le | exact LeS.add _ | (simp; done) | (simp; omega)) _)))
            clear hK K hHeld
            have hHeld := hHeld1; clear hHeld1
            try simp only [Act.put, List.setIfInBounds_toArray, List.set_cons_zero, List.set_cons_succ]
            refine wpAnyH_ready (rs := [5]) (by kernel_rfl) (by simp) ?_
            refine AllReadyH.cons (opAt rfl) (fun K hK => ?_) ?_
            · refine step_clone fActn Actn.enc Actn.enc_length (lo := z2.val.heap.size) l (by rfl) (.tmp 17) (.tmp 18) (by rfl) (by rfl) (by rfl) (by repeat (first | (with_reducible exact heap_alloc_new _ _) | (refine heap_alloc_at ?_; simp; done) | (with_reducible refine (Extd.row _ _).trans ?_) | (with_reducible refine (heap_alloc_old _ _ LtS.lt).trans ?_) | (with_reducible refine (drew_row _ _).trans ?_) | (with_reducible refine (heap_alloc_old _ _ (by omega)).trans ?_) | (with_reducible refine (Extd.row_lt _ (by omega)).trans ?_))) (by first | exact LeS.le | omega | (simp; done) | (simp; omega) | (have := z3.ext.size; simp at this; omega)) (HL.out.up (by repeat (first | (with_reducible exact Ext.refl _) | (with_reducible refine Ext.up ?_ _) | (with_reducible refine Ext.alloc ?_ _) | (with_reducible refine Ext.drew ?_) | (with_reducible refine Ext.setRow ?_ (by first | exact LeS.le | exact LeS.add _ | (simp; done) | (simp; omega)) _) | (with_reducible refine Ext.setCell ?_ (by first | exact LeS.le | exact LeS.add _ | (simp; done) | (simp; omega)) _)))) (oneAs _) (by omega) (by omega) ?_
              intro v4 z4 o4 b4
              obtain ⟨q4, d4, hv4, _, _⟩ := (o4.sl Actn.enc_length).openc
              subst hv4
              refine hK.out _ _ ?_ (fun hHeld1 => ?_)
              · (try dsimp only)
                refine S_of_ext ?_
                exact (by repeat (first | (with_reducible exact Ext.refl _) | (with_reducible refine Ext.up ?_ _) | (with_reducible refine Ext.alloc ?_ _) | (with_reducible refine Ext.drew ?_) | (with_reducible refine Ext.setRow ?_ (by first | exact LeS.le | exact LeS.add _ | (simp; done) | (simp; omega)) _) | (with_reducible refine Ext.setCell ?_ (by first | exact LeS.le | exact LeS.add _ | (simp; done) | (simp; omega)) _)))
              clear hK K hHeld
              have hHeld := hHeld1; clear hHeld1
              try simp only [Act.put, List.setIfInBounds_toArray, List.set_cons_zero, List.set_cons_succ]
              refine wpAnyH_take (i := 9) (v := ?_) (opAt rfl) (by kernel_rfl) (by kernel_rfl) (by kernel_rfl) (fun _ _ _ h => h) (Or.inl ⟨by rfl, ?_⟩) (by assumption) ?_
              rotate_left
              · (intro w hSw; (try dsimp only at hSw); go_simp) <;> with_reducible rfl
              try simp only [Act.put, List.setIfInBounds_toArray, List.set_cons_zero, List.set_cons_succ]
              refine wpAnyH_ready (rs := [10]) (by kernel_rfl) (by simp) ?_
              refine AllReadyH.cons (opAt rfl) (fun K hK => ?_) ?_
              · go_simp
                refine hK.out _ _ ?_ (fun hHeld1 => ?_)
                · (try dsimp only)
                  refine S_of_ext ?_
                  exact (by repeat (first | (with_reducible exact Ext.refl _) | (with_reducible refine Ext.up ?_ _) | (with_reducible refine Ext.alloc ?_ _) | (with_reducible refine Ext.drew ?_) | (with_reducible refine Ext.setRow ?_ (by first | exact LeS.le | exact LeS.add _ | (simp; done) | (simp; omega)) _) | (with_reducible refine Ext.setCell ?_ (by first | exact LeS.le | exact LeS.add _ | (simp; done) | (simp; omega)) _)))
                clear hK K hHeld
                have hHeld := hHeld1; clear hHeld1
                try simp only [Act.put, List.setIfInBounds_toArray, List.set_cons_zero, List.set_cons_succ]
                refine wpAnyH_done (by kernel_rfl) ?_ _
                clear hmk
                go_wp2_with fail
                refine bodyPost_ret (v := .agg #[.slice q3 s.length d3, .slice q4 l.length d4, .slice none 0 0, .slice (some ⟨z2.val.heap.size, 0, none⟩) l.length l.length]) (by simp [results, Try.results29, go_sem]) rfl ?_
                have h3 := z3.ext.size
                have h4 := z4.ext.size
                simp at h3 h4
                refine ⟨_, _, _, _, s, l, [], List.replicate l.length zeroTS, rfl, (.of (by repeat (first | (with_reducible exact Ext.refl _) | (with_reducible refine Ext.up ?_ _) | (with_reducible refine Ext.alloc ?_ _) | (with_reducible refine Ext.drew ?_) | (with_reducible refine Ext.setRow ?_ (by first | exact LeS.le | exact LeS.add _ | (simp; done) | (simp; omega)) _) | (with_reducible refine Ext.setCell ?_ (by first | exact LeS.le | exact LeS.add _ | (simp; done) | (simp; omega)) _)))), ⟨Own.lo (lo := z2.val.heap.size) ?_ (by omega), Own.lo (lo := z2.val.heap.size) ?_ (by omega), Own.nil _ _ _ _ _, OSA.lo (lo := z2.val.heap.size) ?_ (by omega)⟩, rfl, by rw [List.length_replicate]; omega, by omega⟩
                · repeat (first | (with_reducible exact o3) | (with_reducible refine Own.setOld ?_ _ _ (by dsimp only; omega)) | (with_reducible refine Own.up ?_ (Extd.ext _)) | (with_reducible refine Own.alloc ?_))
                · repeat (first | (with_reducible exact o4) | (with_reducible refine Own.setOld ?_ _ _ (by dsimp only; omega)) | (with_reducible refine Own.up ?_ (Extd.ext _)) | (with_reducible refine Own.alloc ?_))
                · repeat (first | (with_reducible exact OSA.made HCS.out (by omega) (by simp) (by first | exact Nat.le_refl _ | (simp; done) | (simp; omega) | omega)) | (with_reducible refine OSA.setOld ?_ _ _ (by dsimp only; omega)) | (with_reducible refine OSA.alloc ?_ _) | (with_reducible refine OSA.drew ?_) | (with_reducible refine OSA.up ?_ (Extd.ext _)))
              exact AllReadyH.nil
            exact AllReadyH.nil
          exact AllReadyH.nil
        exact AllReadyH.nil
      exact AllReadyH.nil
    exact AllReadyH.nil
end Go.Proofs.Ytnknamddonjnjaa
