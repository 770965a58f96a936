/- Walks: engines, the reference's side: EngineRun. Plain ground: engines that are altered. -/
import Derived.Test.YtnknamddonjnjaaGEoVTop29
import Derived.Test.YtnknamddonjnjaaGEoVTop09
set_option linter.unusedSimpArgs false
set_option linter.unusedVariables false
namespace Go.Proofs.Ytnknamddonjnjaa
open Go Go.RowKit Go.Proofs

/-- A store into an engine's box. -/
theorem OEX.setE {lo G : Nat} {w : World} {v0 v1 v2 v3 : Value} {base : List Ent} {acts : List Actn} {vers : List Ver} {ts : List TS} {cs : Array Value} (h : OEX lo w v0 v1 v2 v3 base acts vers ts) (hG : w.heap[G]? = some (.cells cs 28 (0, 0))) (i : Nat) (u : Value) : OEX lo (w.setCell ⟨G, i, none⟩ u) v0 v1 v2 v3 base acts vers ts :=
  h.setOff i u (h.g.base.ne_type hG (by decide)) (h.g.acts.ne_type hG (by decide)) (h.g.vers.ne_type hG (by decide)) (h.g.sl.row.ne_type hG (by decide)) (fun x hx v hv => by
    obtain ⟨i0, i1, i2⟩ := h.g.sl.deep x hx
    simp only [TS.parts, List.mem_cons, List.not_mem_nil, or_false] at hv
    rcases hv with rfl | rfl | rfl
    · exact i0.ne_type hG (by decide)
    · exact i1.ne_type hG (by decide)
    · exact i2.ne_type hG (by decide))
/-- A box of four cells written whole. -/
def set4 (w : World) (G : Nat) (u0 u1 u2 u3 : Value) : World := (((w.setCell ⟨G, 0, none⟩ u0).setCell ⟨G, 1, none⟩ u1).setCell ⟨G, 2, none⟩ u2).setCell ⟨G, 3, none⟩ u3
theorem set4_row {w : World} {G : Nat} {c0 c1 c2 c3 : Value} {T : TypeId} (hG : w.heap[G]? = some (.cells #[c0, c1, c2, c3] T (0, 0))) (u0 u1 u2 u3 : Value) : (set4 w G u0 u1 u2 u3).heap[G]? = some (.cells #[u0, u1, u2, u3] T (0, 0)) := by
  have r0 := (heap_setCell_same _ _ 0 _ _ u0 hG).trans rfl
  have r1 := (heap_setCell_same _ _ 1 _ _ u1 r0).trans rfl
  have r2 := (heap_setCell_same _ _ 2 _ _ u2 r1).trans rfl
  exact (heap_setCell_same _ _ 3 _ _ u3 r2).trans rfl
theorem set4_ne (w : World) {G n : Nat} (hn : n ≠ G) (u0 u1 u2 u3 : Value) : (set4 w G u0 u1 u2 u3).heap[n]? = w.heap[n]? :=
  (Below.heap_setCell _ _ _ _ hn).trans ((Below.heap_setCell _ _ _ _ hn).trans ((Below.heap_setCell _ _ _ _ hn).trans (Below.heap_setCell _ _ _ _ hn)))
theorem set4_sz (w : World) (G : Nat) (u0 u1 u2 u3 : Value) : (set4 w G u0 u1 u2 u3).heap.size = w.heap.size := by simp [set4, setCell_sz]
/-- An engine's box written whole. -/
theorem OEX.set4 {lo G : Nat} {w : World} {v0 v1 v2 v3 : Value} {base : List Ent} {acts : List Actn} {vers : List Ver} {ts : List TS} {c0 c1 c2 c3 : Value} (h : OEX lo w v0 v1 v2 v3 base acts vers ts) (hG : w.heap[G]? = some (.cells #[c0, c1, c2, c3] 28 (0, 0))) (u0 u1 u2 u3 : Value) :
    OEX lo (set4 w G u0 u1 u2 u3) v0 v1 v2 v3 base acts vers ts := by
  have r0 := (heap_setCell_same _ _ 0 _ _ u0 hG).trans rfl
  have r1 := (heap_setCell_same _ _ 1 _ _ u1 r0).trans rfl
  have r2 := (heap_setCell_same _ _ 2 _ _ u2 r1).trans rfl
  exact (((h.setE hG 0 u0).setE r0 1 u1).setE r1 2 u2).setE r2 3 u3
theorem OEX.nil (lo : Nat) (w : World) : OEX lo w (.slice none 0 0) (.slice none 0 0) (.slice none 0 0) (.slice none 0 0) [] [] [] [] :=
  ⟨⟨Own.nil _ _ _ _ _, Own.nil _ _ _ _ _, Own.nil _ _ _ _ _, OSA.nil _ _⟩, .inl rfl, .inl rfl, .inl rfl, by simp⟩
theorem OEX.sgE {lo : Nat} {w : World} {v0 v1 v2 v3 : Value} {E : Eng} {ts : List TS} (h : OEX lo w v0 v1 v2 v3 E.base E.acts E.vers ts) (ht : ts.map TS.core = E.sl) : SG w v0 v1 v2 v3 E := by
  have := h.g.sg
  rw [ht] at this
  exact this
/-- An engine in the box G beside the result's box B. -/
structure RunB (w : World) (B G : Nat) (u0 u1 u2 u3 : Value) (ts : List TS) (E : Eng) (wr : World) : Prop where
  up : Ext w wr
  res : wr.heap[B]? = some (.cells #[.slice none 0 0, .slice none 0 0, .slice none 0 0, .slice none 0 0] 28 (0, 0))
  box : wr.heap[G]? = some (.cells #[u0, u1, u2, u3] 28 (0, 0))
  hts : ts.map TS.core = E.sl
  inv : E.Inv
  ox : OEX w.heap.size wr u0 u1 u2 u3 E.base E.acts E.vers ts
/-- The next engine is written into the box G. -/
theorem RunB.next {w wr W : World} {B G : Nat} {u0 u1 u2 u3 y0 y1 y2 y3 : Value} {ts ts' : List TS} {E E' : Eng} (h : RunB w B G u0 u1 u2 u3 ts E wr) (hE : Ext wr W) (hBG : B ≠ G) (hwG : w.heap.size ≤ G)
    (ht : ts'.map TS.core = E'.sl) (hI : E'.Inv) (ho : OEX w.heap.size W y0 y1 y2 y3 E'.base E'.acts E'.vers ts') : RunB w B G y0 y1 y2 y3 ts' E' ((((W.setCell ⟨G, 0, none⟩ y0).setCell ⟨G, 1, none⟩ y1).setCell ⟨G, 2, none⟩ y2).setCell ⟨G, 3, none⟩ y3) := by
  have rG := row_up hE h.box
  exact ⟨Ext.setCell (Ext.setCell (Ext.setCell (Ext.setCell (h.up.trans hE) hwG _) hwG _) hwG _) hwG _, (set4_ne _ hBG _ _ _ _).trans (row_up hE h.res), set4_row rG _ _ _ _, ht, hI, ho.set4 rG _ _ _ _⟩
theorem Ext.set4 {w W : World} (h : Ext w W) {Y : Nat} (hY : w.heap.size ≤ Y) (u0 u1 u2 u3 : Value) : Ext w ((((W.setCell ⟨Y, 0, none⟩ u0).setCell ⟨Y, 1, none⟩ u1).setCell ⟨Y, 2, none⟩ u2).setCell ⟨Y, 3, none⟩ u3) := Ext.setCell (Ext.setCell (Ext.setCell (Ext.setCell h hY _) hY _) hY _) hY _
/-- What a run of steps holds. -/
def RunR (w : World) (G n : Nat) (s6 s8 : Value) (wr : World) : Prop :=
  ∃ (k : Nat) (m : Int) (u0 u1 u2 u3 : Value) (ts : List TS) (E : Eng), s8 = .int .i64 k ∧ s6 = .int .i64 m ∧ k ≤ n ∧ RunB w (w.heap.size + 1) G u0 u1 u2 u3 ts E wr
set_option maxRecDepth 100000 in
set_option maxHeartbeats 4000000 in
theorem engineRun_any (e : Eng) (sc : List Int) (v0 v1 v2 v3 vs : Value) (w : World) (h : SG w v0 v1 v2 v3 e) (hvl : e.vers.length ≤ 1048576) (hs : SL (RF encI) 1 w vs sc) :
    Calls Try.prog 32 #[.agg #[v0, v1, v2, v3], vs] w fun ed w' => ∃ u0 u1 u2 u3 ts m, ∃ E : Eng, ed = .returned (.tuple #[.agg #[u0, u1, u2, u3], .int .i64 m]) ∧ Up w w' ∧ ts.map TS.core = E.sl ∧ (E.Inv ∨ E = ⟨[], [], [], []⟩) ∧ OEX w.heap.size w' u0 u1 u2 u3 E.base E.acts E.vers ts := by
  have HG := Lib.hid h; have HS := Lib.hid hs
  have hI := Lib.hid (fun h : e.ok = true => Eng.Inv.of h)
  obtain ⟨p0, c0, rfl, _, _⟩ := h.base.openc
  obtain ⟨p1, c1, rfl, _, _⟩ := h.acts.openc
  obtain ⟨p2, c2, rfl, _, _⟩ := h.vers.openc
  obtain ⟨p3, c3, rfl, _, hcs⟩ := h.sl.open
  obtain ⟨ps, cs, rfl, _, _⟩ := hs.openc
  have kev := fun w h => sEngineValid_any e (.slice p0 e.base.length c0) (.slice p1 e.acts.length c1) (.slice p2 e.vers.length c2) (.slice p3 e.sl.length c3) w h hvl
  clear h hs hcs
  rcases hg1 : e.ok with _ | _
  · rw [hg1] at kev
    go_enter Try.func32, Try.ntmps32
    go_wp2_with fail
    refine (kev _ (HG.out.up (by repeat (first | (with_reducible exact Ext.refl _) | (with_reducible refine Ext.up ?_ _) | (with_reducible refine Ext.alloc ?_ _) | (with_reducible refine Ext.drew ?_) | (with_reducible refine Ext.setRow ?_ (by first | exact LeS.le | exact LeS.add _ | (simp; done) | (simp; omega)) _) | (with_reducible refine Ext.setCell ?_ (by first | exact LeS.le | exact LeS.add _ | (simp; done) | (simp; omega)) _))))).mono ?_; rintro ed w' ⟨rfl, ⟨z, rfl⟩⟩
    have hz := z.ext.size
    simp at hz
    have cR0 : z.val.cell? ⟨w.heap.size + 1, 0, none⟩ = some (.slice none 0 0) := by go_simp
    have cR1 : z.val.cell? ⟨w.heap.size + 1, 1, none⟩ = some (.slice none 0 0) := by go_simp
    have cR2 : z.val.cell? ⟨w.heap.size + 1, 2, none⟩ = some (.slice none 0 0) := by go_simp
    have cR3 : z.val.cell? ⟨w.heap.size + 1, 3, none⟩ = some (.slice none 0 0) := by go_simp
    have hLR : LtS (w.heap.size + 1) z.val := ⟨by omega⟩
    go_wp2_with fail
    refine bodyPost_ret (v := .tuple #[.agg #[.slice none 0 0, .slice none 0 0, .slice none 0 0, .slice none 0 0], .int .i64 (-1)]) (by simp [results, Try.results32, go_sem, cR0, cR1, cR2, cR3]) rfl ?_
    refine ⟨_, _, _, _, [], _, ⟨[], [], [], []⟩, rfl, .of ?_, rfl, .inr rfl, OEX.nil _ _⟩
    repeat (first | (with_reducible exact (Ext.refl _)) | (with_reducible exact z.ext) | (with_reducible refine Ext.setCell ?_ (by first | exact Nat.le_succ _ | omega | (simp; omega)) _) | (with_reducible refine Ext.up ?_ _) | (with_reducible refine Ext.alloc ?_ _) | (with_reducible refine Ext.drew ?_))
  have g1 := hg1
  rw [hg1] at kev
  by_cases h200 : 200 < sc.length
  · go_enter Try.func32, Try.ntmps32
    go_wp2_with fail
    refine (kev _ (HG.out.up (by repeat (first | (with_reducible exact Ext.refl _) | (with_reducible refine Ext.up ?_ _) | (with_reducible refine Ext.alloc ?_ _) | (with_reducible refine Ext.drew ?_) | (with_reducible refine Ext.setRow ?_ (by first | exact LeS.le | exact LeS.add _ | (simp; done) | (simp; omega)) _) | (with_reducible refine Ext.setCell ?_ (by first | exact LeS.le | exact LeS.add _ | (simp; done) | (simp; omega)) _))))).mono ?_; rintro ed w' ⟨rfl, ⟨z, rfl⟩⟩
    have hz := z.ext.size
    simp at hz
    have cR0 : z.val.cell? ⟨w.heap.size + 1, 0, none⟩ = some (.slice none 0 0) := by go_simp
    have cR1 : z.val.cell? ⟨w.heap.size + 1, 1, none⟩ = some (.slice none 0 0) := by go_simp
    have cR2 : z.val.cell? ⟨w.heap.size + 1, 2, none⟩ = some (.slice none 0 0) := by go_simp
    have cR3 : z.val.cell? ⟨w.heap.size + 1, 3, none⟩ = some (.slice none 0 0) := by go_simp
    have hLR : LtS (w.heap.size + 1) z.val := ⟨by omega⟩
    go_wp2_with fail
    refine bodyPost_ret (v := .tuple #[.agg #[.slice none 0 0, .slice none 0 0, .slice none 0 0, .slice none 0 0], .int .i64 (-1)]) (by simp [results, Try.results32, go_sem, cR0, cR1, cR2, cR3]) rfl ?_
    refine ⟨_, _, _, _, [], _, ⟨[], [], [], []⟩, rfl, .of ?_, rfl, .inr rfl, OEX.nil _ _⟩
    repeat (first | (with_reducible exact (Ext.refl _)) | (with_reducible exact z.ext) | (with_reducible refine Ext.setCell ?_ (by first | exact Nat.le_succ _ | omega | (simp; omega)) _) | (with_reducible refine Ext.up ?_ _) | (with_reducible refine Ext.alloc ?_ _) | (with_reducible refine Ext.drew ?_))
  have hI := Lib.hid (hI.out g1)
  go_enter Try.func32, Try.ntmps32
  go_wp2_with fail
  refine (kev _ (HG.out.up (by repeat (first | (with_reducible exact Ext.refl _) | (with_reducible refine Ext.up ?_ _) | (with_reducible refine Ext.alloc ?_ _) | (with_reducible refine Ext.drew ?_) | (with_reducible refine Ext.setRow ?_ (by first | exact LeS.le | exact LeS.add _ | (simp; done) | (simp; omega)) _) | (with_reducible refine Ext.setCell ?_ (by first | exact LeS.le | exact LeS.add _ | (simp; done) | (simp; omega)) _))))).mono ?_; rintro ed w' ⟨rfl, ⟨z1, rfl⟩⟩
  have hz1 := z1.ext.size
  simp at hz1
  go_wp2_with fail
  obtain ⟨n0, n1, n2, n3, n4⟩ := hI.out.parts
  refine (copyE_any e _ _ _ _ _ (HG.out.up (by repeat (first | (with_reducible exact Ext.refl _) | (with_reducible refine Ext.up ?_ _) | (with_reducible refine Ext.alloc ?_ _) | (with_reducible refine Ext.drew ?_) | (with_reducible refine Ext.setRow ?_ (by first | exact LeS.le | exact LeS.add _ | (simp; done) | (simp; omega)) _) | (with_reducible refine Ext.setCell ?_ (by first | exact LeS.le | exact LeS.add _ | (simp; done) | (simp; omega)) _)))) n0 n1 n2 n3 n4).mono ?_; rintro ed w' ⟨u0, u1, u2, u3, ts, rfl, ⟨z2, rfl⟩, hts, ho⟩
  obtain ⟨q0, d0, rfl, _, _⟩ := (ho.g.base.sl Ent.enc_length).openc
  obtain ⟨q1, d1, rfl, _, _⟩ := (ho.g.acts.sl Actn.enc_length).openc
  obtain ⟨q2, d2, rfl, _, _⟩ := (ho.g.vers.sl Ver.enc_length).openc
  obtain ⟨q3, d3, rfl, _, _⟩ := (ho.g.sl.row.sl TS.enc_length).openc
  have HO := Lib.hid ho; have HT := Lib.hid hts
  have hz2 := z2.ext.size
  have hLR : LtS (w.heap.size + 1) z2.val := ⟨by omega⟩
  have hrB : z2.val.heap[w.heap.size + 1]? = some (.cells #[.slice none 0 0, .slice none 0 0, .slice none 0 0, .slice none 0 0] 28 (0, 0)) := (z2.ext.block (by omega)).trans ((z1.ext.block (by simp)).trans (heap_alloc_at (by simp)))
  have HRB := Lib.hid hrB
  clear ho hts n0 n1 n2 n3 n4 kev hrB
  go_wp2_with fail
  go_loopw [6, 8] (fun s6 s8 wr => RunR w z2.val.heap.size sc.length s6 s8 wr) (fun _ s8 _ => sc.length - (intOf s8).toNat)
  case atStart =>
    refine ⟨0, 0, .slice q0 e.base.length d0, .slice q1 e.acts.length d1, .slice q2 e.vers.length d2, .slice q3 ts.length d3, ts, e, rfl, rfl, Nat.zero_le _, ⟨?_, ?_, ?_, HT.out, hI.out, ?_⟩⟩
    · exact (by repeat (first | (with_reducible exact Ext.refl _) | (with_reducible refine Ext.up ?_ _) | (with_reducible refine Ext.alloc ?_ _) | (with_reducible refine Ext.drew ?_) | (with_reducible refine Ext.setRow ?_ (by first | exact LeS.le | exact LeS.add _ | (simp; done) | (simp; omega)) _) | (with_reducible refine Ext.setCell ?_ (by first | exact LeS.le | exact LeS.add _ | (simp; done) | (simp; omega)) _)))
    · exact row_up ((Ext.refl _).alloc _) HRB.out
    · exact heap_alloc_new _ _
    · exact (HO.out.up ((Ext.refl _).alloc _)).lo (by omega)
  case round =>
    obtain ⟨k, m, u0, u1, u2, u3, ts, E, rfl, rfl, hk, hrun⟩ := hrel
    obtain ⟨q0, d0, rfl, _, _⟩ := (hrun.ox.g.base.sl Ent.enc_length).openc
    obtain ⟨q1, d1, rfl, _, _⟩ := (hrun.ox.g.acts.sl Actn.enc_length).openc
    obtain ⟨q2, d2, rfl, _, _⟩ := (hrun.ox.g.vers.sl Ver.enc_length).openc
    obtain ⟨q3, d3, rfl, _, _⟩ := (hrun.ox.g.sl.row.sl TS.enc_length).openc
    have HRB := Lib.hid hrun
    have HSG := Lib.hid (hrun.ox.sgE hrun.hts); have HT := Lib.hid hrun.hts; have HI := Lib.hid hrun.inv
    obtain ⟨z, rfl⟩ := Up.of hrun.up
    have hLG : LtS z2.val.heap.size z.val := ⟨(Array.getElem?_eq_some_iff.1 hrun.box).1⟩
    have hLB : LtS (w.heap.size + 1) z.val := ⟨(Array.getElem?_eq_some_iff.1 hrun.res).1⟩
    have g0 : z.val.cell? ⟨z2.val.heap.size, 0, none⟩ = some (.slice q0 E.base.length d0) := cell_of_row _ _ 0 _ _ _ hrun.box
    have g1 : z.val.cell? ⟨z2.val.heap.size, 1, none⟩ = some (.slice q1 E.acts.length d1) := cell_of_row _ _ 1 _ _ _ hrun.box
    have g2 : z.val.cell? ⟨z2.val.heap.size, 2, none⟩ = some (.slice q2 E.vers.length d2) := cell_of_row _ _ 2 _ _ _ hrun.box
    have g3 : z.val.cell? ⟨z2.val.heap.size, 3, none⟩ = some (.slice q3 ts.length d3) := cell_of_row _ _ 3 _ _ _ hrun.box
    have fg0 := frozen_of_row _ _ 0 _ _ hrun.box
    have fg1 := frozen_of_row _ _ 1 _ _ hrun.box
    have fg2 := frozen_of_row _ _ 2 _ _ hrun.box
    have fg3 := frozen_of_row _ _ 3 _ _ hrun.box
    clear hrun
    by_cases hlt : k < sc.length
    · obtain ⟨x, hx⟩ := getElem?_some_of_lt (l := sc) (k := k) hlt
      obtain ⟨_, _, ea, _, hca⟩ := (HS.out.up z.ext).open
      cases ea
      obtain ⟨ba, oa, rfl, hba, hcc⟩ := hca k x hx
      have e0 : z.val.cell? ⟨ba, oa + k, none⟩ = some (.int .i64 x) := by have := hcc 0 _ rfl; simpa using this
      have k0 : (0 : Int) ≤ (k : Int) := by omega
      have k1 : (k : Int) < sc.length := by omega
      clear hca hcc hx
      go_upto_region 8 with fail
      refine wp_region_held_drew (S := (fun w' => (∀ n i, ∀ [LtS n z.val], w'.cell? ⟨n, i, none⟩ = World.cell? z.val ⟨n, i, none⟩) ∧ Ext z.val w')) (by kernel_rfl) ?_ (fun hHeld => ?_)
      · (try dsimp only)
        refine S_of_ext ?_
        exact (by repeat (first | (with_reducible exact Ext.refl _) | (with_reducible refine Ext.up ?_ _) | (with_reducible refine Ext.alloc ?_ _) | (with_reducible refine Ext.drew ?_) | (with_reducible refine Ext.setRow ?_ (by first | exact LeS.le | exact LeS.add _ | (simp; done) | (simp; omega)) _) | (with_reducible refine Ext.setCell ?_ (by first | exact LeS.le | exact LeS.add _ | (simp; done) | (simp; omega)) _)))
      refine wpAnyH_take (i := 0) (v := ?_) (opAt rfl) (by kernel_rfl) (by kernel_rfl) (by kernel_rfl) (fun _ _ _ h => h) (Or.inl ⟨by rfl, ?_⟩) (by assumption) ?_
      rotate_left
      · (intro w hSw; (try dsimp only at hSw); go_simp) <;> with_reducible rfl
      try simp only [Act.put, List.setIfInBounds_toArray, List.set_cons_zero, List.set_cons_succ]
      refine wpAnyH_take (i := 1) (v := ?_) (opAt rfl) (by kernel_rfl) (by kernel_rfl) (by kernel_rfl) (fun _ _ _ h => h) (Or.inl ⟨by rfl, ?_⟩) (by assumption) ?_
      rotate_left
      · (intro w hSw; (try dsimp only at hSw); go_simp) <;> with_reducible rfl
      try simp only [Act.put, List.setIfInBounds_toArray, List.set_cons_zero, List.set_cons_succ]
      refine wpAnyH_take (i := 2) (v := ?_) (opAt rfl) (by kernel_rfl) (by kernel_rfl) (by kernel_rfl) (fun _ _ _ h => h) (Or.inl ⟨by rfl, ?_⟩) (by assumption) ?_
      rotate_left
      · (intro w hSw; (try dsimp only at hSw); go_simp) <;> with_reducible rfl
      try simp only [Act.put, List.setIfInBounds_toArray, List.set_cons_zero, List.set_cons_succ]
      refine wpAnyH_take (i := 3) (v := ?_) (opAt rfl) (by kernel_rfl) (by kernel_rfl) (by kernel_rfl) (fun _ _ _ h => h) (Or.inl ⟨by rfl, ?_⟩) (by assumption) ?_
      rotate_left
      · (intro w hSw; (try dsimp only at hSw); go_simp) <;> with_reducible rfl
      try simp only [Act.put, List.setIfInBounds_toArray, List.set_cons_zero, List.set_cons_succ]
      refine wpAnyH_take (i := 4) (v := ?_) (opAt rfl) (by kernel_rfl) (by kernel_rfl) (by kernel_rfl) (fun _ _ _ h => h) (Or.inl ⟨by rfl, ?_⟩) (by assumption) ?_
      rotate_left
      · (intro w hSw; (try dsimp only at hSw); go_simp) <;> with_reducible rfl
      try simp only [Act.put, List.setIfInBounds_toArray, List.set_cons_zero, List.set_cons_succ]
      refine wpAnyH_ready (rs := [5, 9]) (by kernel_rfl) (by simp) ?_
      refine AllReadyH.cons (opAt rfl) (fun K hK => ?_) ?_
      · go_simp
        go_at_call 61
        refine (stepE_any E _ _ _ _ x _ (HSG.out.up (by repeat (first | (with_reducible exact Ext.refl _) | (with_reducible refine Ext.up ?_ _) | (with_reducible refine Ext.alloc ?_ _) | (with_reducible refine Ext.drew ?_) | (with_reducible refine Ext.setRow ?_ (by first | exact LeS.le | exact LeS.add _ | (simp; done) | (simp; omega)) _) | (with_reducible refine Ext.setCell ?_ (by first | exact LeS.le | exact LeS.add _ | (simp; done) | (simp; omega)) _)))) HI.out).mono ?_
        rintro ed w' ⟨y0, y1, y2, y3, ts', rfl, ⟨z8, rfl⟩, hts, ho⟩
        obtain ⟨f0, h0, rfl, _, _⟩ := (ho.g.base.sl Ent.enc_length).openc
        obtain ⟨f1, h1, rfl, _, _⟩ := (ho.g.acts.sl Actn.enc_length).openc
        obtain ⟨f2, h2, rfl, _, _⟩ := (ho.g.vers.sl Ver.enc_length).openc
        obtain ⟨f3, h3, rfl, _, _⟩ := (ho.g.sl.row.sl TS.enc_length).openc
        have HO8 := Lib.hid ho; have HT8 := Lib.hid hts; clear ho hts

        try go_wp2_with fail
        refine hK.out _ _ ?_ (fun hHeld1 => ?_)
        · (try dsimp only)
          refine S_of_ext ?_
          exact (by repeat (first | (with_reducible exact Ext.refl _) | (with_reducible refine Ext.up ?_ _) | (with_reducible refine Ext.alloc ?_ _) | (with_reducible refine Ext.drew ?_) | (with_reducible refine Ext.setRow ?_ (by first | exact LeS.le | exact LeS.add _ | (simp; done) | (simp; omega)) _) | (with_reducible refine Ext.setCell ?_ (by first | exact LeS.le | exact LeS.add _ | (simp; done) | (simp; omega)) _)))
        clear hK K hHeld
        have hHeld := hHeld1; clear hHeld1
        try simp only [Act.put, List.setIfInBounds_toArray, List.set_cons_zero, List.set_cons_succ]
        refine wpAnyH_take (i := 6) (v := ?_) (opAt rfl) (by kernel_rfl) (by kernel_rfl) (by kernel_rfl) (fun _ _ _ h => h) (Or.inl ⟨by rfl, ?_⟩) (by assumption) ?_
        rotate_left
        · (intro w hSw; (try dsimp only at hSw); go_simp) <;> with_reducible rfl
        try simp only [Act.put, List.setIfInBounds_toArray, List.set_cons_zero, List.set_cons_succ]
        refine wpAnyH_take (i := 7) (v := ?_) (opAt rfl) (by kernel_rfl) (by kernel_rfl) (by kernel_rfl) (fun _ _ _ h => h) (Or.inl ⟨by rfl, ?_⟩) (by assumption) ?_
        rotate_left
        · (intro w hSw; (try dsimp only at hSw); go_simp) <;> with_reducible rfl
        try simp only [Act.put, List.setIfInBounds_toArray, List.set_cons_zero, List.set_cons_succ]
        refine wpAnyH_take (i := 8) (v := ?_) (opAt rfl) (by kernel_rfl) (by kernel_rfl) (by kernel_rfl) (fun _ _ _ h => h) (Or.inl ⟨by rfl, ?_⟩) (by assumption) ?_
        rotate_left
        · (intro w hSw; (try dsimp only at hSw); go_simp) <;> with_reducible rfl
        try simp only [Act.put, List.setIfInBounds_toArray, List.set_cons_zero, List.set_cons_succ]
        refine wpAnyH_ready (rs := [9]) (by kernel_rfl) (by simp) ?_
        refine AllReadyH.cons (opAt rfl) (fun K hK => ?_) ?_
        · go_simp
          refine hK.out _ _ ?_ (fun hHeld1 => ?_)
          · (try dsimp only)
            refine S_of_ext ?_
            exact (by repeat (first | (with_reducible exact Ext.refl _) | (with_reducible refine Ext.up ?_ _) | (with_reducible refine Ext.alloc ?_ _) | (with_reducible refine Ext.drew ?_) | (with_reducible refine Ext.setRow ?_ (by first | exact LeS.le | exact LeS.add _ | (simp; done) | (simp; omega)) _) | (with_reducible refine Ext.setCell ?_ (by first | exact LeS.le | exact LeS.add _ | (simp; done) | (simp; omega)) _)))
          clear hK K hHeld
          have hHeld := hHeld1; clear hHeld1
          try simp only [Act.put, List.setIfInBounds_toArray, List.set_cons_zero, List.set_cons_succ]
          refine wpAnyH_ready (rs := [10]) (by kernel_rfl) (by simp) ?_
          refine AllReadyH.cons (opAt rfl) (fun K hK => ?_) ?_
          · go_simp
            refine hK.out _ _ ?_ (fun hHeld1 => ?_)
            · (try dsimp only)
              refine S_of_ext ?_
              exact (by repeat (first | (with_reducible exact Ext.refl _) | (with_reducible refine Ext.up ?_ _) | (with_reducible refine Ext.alloc ?_ _) | (with_reducible refine Ext.drew ?_) | (with_reducible refine Ext.setRow ?_ (by first | exact LeS.le | exact LeS.add _ | (simp; done) | (simp; omega)) _) | (with_reducible refine Ext.setCell ?_ (by first | exact LeS.le | exact LeS.add _ | (simp; done) | (simp; omega)) _)))
            clear hK K hHeld
            have hHeld := hHeld1; clear hHeld1
            try simp only [Act.put, List.setIfInBounds_toArray, List.set_cons_zero, List.set_cons_succ]
            refine wpAnyH_take (i := 11) (v := ?_) (opAt rfl) (by kernel_rfl) (by kernel_rfl) (by kernel_rfl) (fun _ _ _ h => h) (Or.inl ⟨by rfl, ?_⟩) (by assumption) ?_
            rotate_left
            · (intro w hSw; (try dsimp only at hSw); go_simp) <;> with_reducible rfl
            try simp only [Act.put, List.setIfInBounds_toArray, List.set_cons_zero, List.set_cons_succ]
            refine wpAnyH_done (by kernel_rfl) ?_ _
            have hz8 := z8.ext.size
            simp at hz8
            have hzw := HRB.out.up.size
            have hGl : z2.val.heap.size < z.val.heap.size := hLG.lt
            have hwz : w.heap.size ≤ z2.val.heap.size := by omega
            have hY := trivial
            have hEY : Ext z.val (z8.val.alloc (.cells #[.slice f0 (E.step x).fst.base.length h0, .slice f1 (E.step x).fst.acts.length h1, .slice f2 (E.step x).fst.vers.length h2, .slice f3 ts'.length h3] 28)) := (by repeat (first | (with_reducible exact Ext.refl _) | (with_reducible refine Ext.up ?_ _) | (with_reducible refine Ext.alloc ?_ _) | (with_reducible refine Ext.drew ?_) | (with_reducible refine Ext.setRow ?_ (by first | exact LeS.le | exact LeS.add _ | (simp; done) | (simp; omega)) _) | (with_reducible refine Ext.setCell ?_ (by first | exact LeS.le | exact LeS.add _ | (simp; done) | (simp; omega)) _)))
            have HN := Lib.hid (RunB.next HRB.out hEY (by omega) hwz HT8.out (HI.out.step x) ((HO8.out.up ((Ext.refl _).alloc _)).lo (by simp; omega)))
            clear hY hEY
            rcases hok : (E.step x).2 with _ | _
            · go_wp2_with fail
              go_roundw
              case rel => exact ⟨k + 1, _, .slice f0 (E.step x).fst.base.length h0, .slice f1 (E.step x).fst.acts.length h1, .slice f2 (E.step x).fst.vers.length h2, .slice f3 ts'.length h3, ts', (E.step x).1, by go_num, rfl, by omega, HN.out⟩
              case measure => simp [intOf]; omega
            · go_wp2_with fail
              go_roundw
              case rel => exact ⟨k + 1, _, .slice f0 (E.step x).fst.base.length h0, .slice f1 (E.step x).fst.acts.length h1, .slice f2 (E.step x).fst.vers.length h2, .slice f3 ts'.length h3, ts', (E.step x).1, by go_num, rfl, by omega, HN.out⟩
              case measure => simp [intOf]; omega
          exact AllReadyH.nil
        exact AllReadyH.nil
      refine AllReadyH.cons (opAt rfl) (fun K hK => ?_) ?_
      · go_simp
        refine hK.out _ _ ?_ (fun hHeld1 => ?_)
        · (try dsimp only)
          refine S_of_ext ?_
          exact (by repeat (first | (with_reducible exact Ext.refl _) | (with_reducible refine Ext.up ?_ _) | (with_reducible refine Ext.alloc ?_ _) | (with_reducible refine Ext.drew ?_) | (with_reducible refine Ext.setRow ?_ (by first | exact LeS.le | exact LeS.add _ | (simp; done) | (simp; omega)) _) | (with_reducible refine Ext.setCell ?_ (by first | exact LeS.le | exact LeS.add _ | (simp; done) | (simp; omega)) _)))
        clear hK K hHeld
        have hHeld := hHeld1; clear hHeld1
        try simp only [Act.put, List.setIfInBounds_toArray, List.set_cons_zero, List.set_cons_succ]
        refine wpAnyH_ready (rs := [5]) (by kernel_rfl) (by simp) ?_
        refine AllReadyH.cons (opAt rfl) (fun K hK => ?_) ?_
        · go_simp
          go_at_call 61
          refine (stepE_any E _ _ _ _ x _ (HSG.out.up (by repeat (first | (with_reducible exact Ext.refl _) | (with_reducible refine Ext.up ?_ _) | (with_reducible refine Ext.alloc ?_ _) | (with_reducible refine Ext.drew ?_) | (with_reducible refine Ext.setRow ?_ (by first | exact LeS.le | exact LeS.add _ | (simp; done) | (simp; omega)) _) | (with_reducible refine Ext.setCell ?_ (by first | exact LeS.le | exact LeS.add _ | (simp; done) | (simp; omega)) _)))) HI.out).mono ?_
          rintro ed w' ⟨y0, y1, y2, y3, ts', rfl, ⟨z8, rfl⟩, hts, ho⟩
          obtain ⟨f0, h0, rfl, _, _⟩ := (ho.g.base.sl Ent.enc_length).openc
          obtain ⟨f1, h1, rfl, _, _⟩ := (ho.g.acts.sl Actn.enc_length).openc
          obtain ⟨f2, h2, rfl, _, _⟩ := (ho.g.vers.sl Ver.enc_length).openc
          obtain ⟨f3, h3, rfl, _, _⟩ := (ho.g.sl.row.sl TS.enc_length).openc
          have HO8 := Lib.hid ho; have HT8 := Lib.hid hts; clear ho hts

          try go_wp2_with fail
          refine hK.out _ _ ?_ (fun hHeld1 => ?_)
          · (try dsimp only)
            refine S_of_ext ?_
            exact (by repeat (first | (with_reducible exact Ext.refl _) | (with_reducible refine Ext.up ?_ _) | (with_reducible refine Ext.alloc ?_ _) | (with_reducible refine Ext.drew ?_) | (with_reducible refine Ext.setRow ?_ (by first | exact LeS.le | exact LeS.add _ | (simp; done) | (simp; omega)) _) | (with_reducible refine Ext.setCell ?_ (by first | exact LeS.le | exact LeS.add _ | (simp; done) | (simp; omega)) _)))
          clear hK K hHeld
          have hHeld := hHeld1; clear hHeld1
          try simp only [Act.put, List.setIfInBounds_toArray, List.set_cons_zero, List.set_cons_succ]
          refine wpAnyH_take (i := 6) (v := ?_) (opAt rfl) (by kernel_rfl) (by kernel_rfl) (by kernel_rfl) (fun _ _ _ h => h) (Or.inl ⟨by rfl, ?_⟩) (by assumption) ?_
          rotate_left
          · (intro w hSw; (try dsimp only at hSw); go_simp) <;> with_reducible rfl
          try simp only [Act.put, List.setIfInBounds_toArray, List.set_cons_zero, List.set_cons_succ]
          refine wpAnyH_take (i := 7) (v := ?_) (opAt rfl) (by kernel_rfl) (by kernel_rfl) (by kernel_rfl) (fun _ _ _ h => h) (Or.inl ⟨by rfl, ?_⟩) (by assumption) ?_
          rotate_left
          · (intro w hSw; (try dsimp only at hSw); go_simp) <;> with_reducible rfl
          try simp only [Act.put, List.setIfInBounds_toArray, List.set_cons_zero, List.set_cons_succ]
          refine wpAnyH_take (i := 8) (v := ?_) (opAt rfl) (by kernel_rfl) (by kernel_rfl) (by kernel_rfl) (fun _ _ _ h => h) (Or.inl ⟨by rfl, ?_⟩) (by assumption) ?_
          rotate_left
          · (intro w hSw; (try dsimp only at hSw); go_simp) <;> with_reducible rfl
          try simp only [Act.put, List.setIfInBounds_toArray, List.set_cons_zero, List.set_cons_succ]
          refine wpAnyH_ready (rs := [10]) (by kernel_rfl) (by simp) ?_
          refine AllReadyH.cons (opAt rfl) (fun K hK => ?_) ?_
          · go_simp
            refine hK.out _ _ ?_ (fun hHeld1 => ?_)
            · (try dsimp only)
              refine S_of_ext ?_
              exact (by repeat (first | (with_reducible exact Ext.refl _) | (with_reducible refine Ext.up ?_ _) | (with_reducible refine Ext.alloc ?_ _) | (with_reducible refine Ext.drew ?_) | (with_reducible refine Ext.setRow ?_ (by first | exact LeS.le | exact LeS.add _ | (simp; done) | (simp; omega)) _) | (with_reducible refine Ext.setCell ?_ (by first | exact LeS.le | exact LeS.add _ | (simp; done) | (simp; omega)) _)))
            clear hK K hHeld
            have hHeld := hHeld1; clear hHeld1
            try simp only [Act.put, List.setIfInBounds_toArray, List.set_cons_zero, List.set_cons_succ]
            refine wpAnyH_take (i := 11) (v := ?_) (opAt rfl) (by kernel_rfl) (by kernel_rfl) (by kernel_rfl) (fun _ _ _ h => h) (Or.inl ⟨by rfl, ?_⟩) (by assumption) ?_
            rotate_left
            · (intro w hSw; (try dsimp only at hSw); go_simp) <;> with_reducible rfl
            try simp only [Act.put, List.setIfInBounds_toArray, List.set_cons_zero, List.set_cons_succ]
            refine wpAnyH_done (by kernel_rfl) ?_ _
            have hz8 := z8.ext.size
            simp at hz8
            have hzw := HRB.out.up.size
            have hGl : z2.val.heap.size < z.val.heap.size := hLG.lt
            have hwz : w.heap.size ≤ z2.val.heap.size := by omega
            have hY : z8.val.heap[z.val.heap.size]? = some (.cells #[.slice none 0 0, .slice none 0 0, .slice none 0 0, .slice none 0 0] 28 (0, 0)) := (z8.ext.block (by simp)).trans (heap_alloc_new _ _)
            have hEY : Ext z.val z8.val := (by repeat (first | (with_reducible exact Ext.refl _) | (with_reducible refine Ext.up ?_ _) | (with_reducible refine Ext.alloc ?_ _) | (with_reducible refine Ext.drew ?_) | (with_reducible refine Ext.setRow ?_ (by first | exact LeS.le | exact LeS.add _ | (simp; done) | (simp; omega)) _) | (with_reducible refine Ext.setCell ?_ (by first | exact LeS.le | exact LeS.add _ | (simp; done) | (simp; omega)) _)))
            have HN := Lib.hid (RunB.next HRB.out (hEY.set4 (Nat.le_refl _) (.slice f0 (E.step x).fst.base.length h0) (.slice f1 (E.step x).fst.acts.length h1) (.slice f2 (E.step x).fst.vers.length h2) (.slice f3 ts'.length h3)) (by omega) hwz HT8.out (HI.out.step x) ((HO8.out.lo (by simp; omega)).set4 hY (.slice f0 (E.step x).fst.base.length h0) (.slice f1 (E.step x).fst.acts.length h1) (.slice f2 (E.step x).fst.vers.length h2) (.slice f3 ts'.length h3)))
            clear hY hEY
            rcases hok : (E.step x).2 with _ | _
            · go_wp2_with fail
              go_roundw
              case rel => exact ⟨k + 1, _, .slice f0 (E.step x).fst.base.length h0, .slice f1 (E.step x).fst.acts.length h1, .slice f2 (E.step x).fst.vers.length h2, .slice f3 ts'.length h3, ts', (E.step x).1, by go_num, rfl, by omega, HN.out⟩
              case measure => simp [intOf]; omega
            · go_wp2_with fail
              go_roundw
              case rel => exact ⟨k + 1, _, .slice f0 (E.step x).fst.base.length h0, .slice f1 (E.step x).fst.acts.length h1, .slice f2 (E.step x).fst.vers.length h2, .slice f3 ts'.length h3, ts', (E.step x).1, by go_num, rfl, by omega, HN.out⟩
              case measure => simp [intOf]; omega
          exact AllReadyH.nil
        exact AllReadyH.nil
      exact AllReadyH.nil
    · obtain rfl : k = sc.length := by omega
      have cR0 : z.val.cell? ⟨w.heap.size + 1, 0, none⟩ = some (.slice none 0 0) := cell_of_row _ _ 0 _ _ _ HRB.out.res
      have cR1 : z.val.cell? ⟨w.heap.size + 1, 1, none⟩ = some (.slice none 0 0) := cell_of_row _ _ 1 _ _ _ HRB.out.res
      have cR2 : z.val.cell? ⟨w.heap.size + 1, 2, none⟩ = some (.slice none 0 0) := cell_of_row _ _ 2 _ _ _ HRB.out.res
      have cR3 : z.val.cell? ⟨w.heap.size + 1, 3, none⟩ = some (.slice none 0 0) := cell_of_row _ _ 3 _ _ _ HRB.out.res
      have fB0 := frozen_of_row _ _ 0 _ _ HRB.out.res
      have fB1 := frozen_of_row _ _ 1 _ _ HRB.out.res
      have fB2 := frozen_of_row _ _ 2 _ _ HRB.out.res
      have fB3 := frozen_of_row _ _ 3 _ _ HRB.out.res
      go_wp2_with fail
      refine bodyPost_ret (v := .tuple #[.agg #[.slice q0 E.base.length d0, .slice q1 E.acts.length d1, .slice q2 E.vers.length d2, .slice q3 ts.length d3], .int .i64 m]) (by simp [results, Try.results32, go_sem, cR0, cR1, cR2, cR3]) rfl ?_
      refine ⟨_, _, _, _, ts, m, E, rfl, .of ?_, HT.out, .inl HI.out, ?_⟩
      · have h2 : w.heap.size ≤ w.heap.size + 1 := Nat.le_succ _
        exact Ext.setCell (Ext.setCell (Ext.setCell (Ext.setCell z.ext h2 _) h2 _) h2 _) h2 _
      · exact HRB.out.ox.set4 HRB.out.res _ _ _ _
end Go.Proofs.Ytnknamddonjnjaa
namespace Go.Proofs.Ytnknamddonjnjaa
open Go Go.RowKit Go.Proofs

/-- An engine's parts in memory, each in a block of its own from lo on. -/
structure OES (lo : Nat) (w : World) (v0 v1 v2 v3 : Value) (base : List Ent) (acts : List Actn) (vers : List Ver) (ts : List TS) : Prop where
  base : Own Ent.enc 59 2 lo w v0 base
  acts : Own Actn.enc 65 4 lo w v1 acts
  vers : Own Ver.enc 32 3 lo w v2 vers
  row : Own TS.enc 39 6 lo w v3 ts
  deep : ∀ x ∈ ts, x.own lo w
theorem OEX.oes {lo : Nat} {w : World} {v0 v1 v2 v3 : Value} {base : List Ent} {acts : List Actn} {vers : List Ver} {ts : List TS} (h : OEX lo w v0 v1 v2 v3 base acts vers ts) : OES lo w v0 v1 v2 v3 base acts vers ts := ⟨h.g.base, h.g.acts, h.g.vers, h.g.sl.row, h.g.sl.deep⟩
section
variable {lo : Nat} {w w' : World} {v0 v1 v2 v3 : Value} {base : List Ent} {acts : List Actn} {vers : List Ver} {ts : List TS}
theorem TS.own.keepHi {hi : Nat} {x : TS} (h : x.own lo w) (hk : Keep hi w w') (hle : hi ≤ lo) : x.own lo w' := ⟨h.1.keepHi hk hle, h.2.1.keepHi hk hle, h.2.2.keepHi hk hle⟩
theorem OES.keepHi {hi : Nat} (h : OES lo w v0 v1 v2 v3 base acts vers ts) (hk : Keep hi w w') (hle : hi ≤ lo) : OES lo w' v0 v1 v2 v3 base acts vers ts :=
  ⟨h.base.keepHi hk hle, h.acts.keepHi hk hle, h.vers.keepHi hk hle, h.row.keepHi hk hle, fun x hx => (h.deep x hx).keepHi hk hle⟩
theorem OES.setOld (h : OES lo w v0 v1 v2 v3 base acts vers ts) (a : Addr) (u : Value) (hlt : a.block < lo) : OES lo (w.setCell a u) v0 v1 v2 v3 base acts vers ts :=
  ⟨h.base.setOld a u hlt, h.acts.setOld a u hlt, h.vers.setOld a u hlt, h.row.setOld a u hlt, fun x hx => (h.deep x hx).setOld a u hlt⟩
theorem OES.sg (h : OES lo w v0 v1 v2 v3 base acts vers ts) : SG w v0 v1 v2 v3 ⟨base, acts, vers, ts.map TS.core⟩ :=
  ⟨h.base.sl Ent.enc_length, h.acts.sl Actn.enc_length, h.vers.sl Ver.enc_length, ⟨ts, rfl, h.row.sl TS.enc_length, fun x hx => ⟨(h.deep x hx).1.sl encI_length, (h.deep x hx).2.1.sl Ent.enc_length, (h.deep x hx).2.2.sl Ent.enc_length⟩⟩⟩
/-- Versions are put behind the versions. -/
theorem OEX.pushV {v7 : Value} {V : List Ver} (h : OEX lo w v0 v1 v2 v3 base acts vers ts) (hg : w.grownBy w' v2.ownBlock) (ho : Own Ver.enc 32 3 lo w' v7 V) : OES lo w' v0 v1 v7 v3 base acts V ts :=
  ⟨h.g.base.keep hg (h.g.base.apart_type h.g.vers (by decide)), h.g.acts.keep hg (h.g.acts.apart_type h.g.vers (by decide)), ho, h.g.sl.row.keep hg h.a2.symm, fun x hx => (h.g.sl.deep x hx).kept hg (fun u hu => (h.i0 x hx u hu).2.2)⟩
theorem pw_at {x : TS} {k : Nat} (h : (ts.flatMap TS.parts).Pairwise Apart) (hx : ts[k]? = some x) : x.parts.Pairwise Apart ∧ ∀ y ∈ ts.take k ++ ts.drop (k + 1), ∀ u ∈ y.parts, ∀ u' ∈ x.parts, Apart u u' := by
  have h2 := split_at hx
  rw [h2, List.flatMap_append, List.flatMap_cons, List.pairwise_append, List.pairwise_append] at h
  obtain ⟨_, ⟨hX, _, hXB⟩, hAB⟩ := h
  refine ⟨hX, fun y hy u hu u' hu' => ?_⟩
  rcases List.mem_append.1 hy with hy | hy
  · exact hAB u (List.mem_flatMap.2 ⟨y, hy, hu⟩) u' (List.mem_append.2 (.inl hu'))
  · exact (hXB u' hu' u (List.mem_flatMap.2 ⟨y, hy, hu⟩)).symm
/-- Entries are put behind what a slot's effect reads. -/
theorem OEX.pushR {g n c k : Nat} {v7 : Value} {r7 : List Ent} {x : TS} (h : OEX lo w v0 v1 v2 (.slice (some ⟨g, 0, none⟩) n c) base acts vers ts) (hx : ts[k]? = some x) (hg : w.grownBy w' x.vr.ownBlock) (ho : Own Ent.enc 59 2 lo w' v7 r7) :
    OES lo (w'.setCell ⟨g, k * 6 + 4, none⟩ v7) v0 v1 v2 (.slice (some ⟨g, 0, none⟩) n c) base acts vers (ts.set k { x with vr := v7, r := r7 }) := by
  have hk := (List.getElem?_eq_some_iff.1 hx).1
  have hxm := List.mem_of_getElem? hx
  obtain ⟨hX, hXt⟩ := pw_at h.g.sl.pw hx
  have hr : x.vr ∈ x.parts := by simp [TS.parts]
  obtain ⟨i0, i1, i2⟩ := h.i0 x hxm _ hr
  have hrow := h.g.sl.row.keep hg (h.g.sl.out x hxm _ hr).symm
  obtain ⟨x0, x1, x2⟩ := h.g.sl.deep x hxm
  simp only [TS.parts, List.pairwise_cons, List.mem_cons, List.not_mem_nil, or_false, forall_eq_or_imp, forall_eq] at hX
  have aG : ∀ {α : Type} {enc : α → List Value} {e sz : Nat} {v : Value} {l : List α}, Own enc e sz lo w' v l → 39 ≠ e → Own enc e sz lo (w'.setCell ⟨g, k * 6 + 4, none⟩ v7) v l := fun o hT => o.setApart _ _ ((hrow.apart_type o hT).symm)
  refine ⟨aG (h.g.base.keep hg i0.symm) (by decide), aG (h.g.acts.keep hg i1.symm) (by decide), aG (h.g.vers.keep hg i2.symm) (by decide), ?_, fun y hy => ?_⟩
  · exact Own.setAt (j := 4) (u := v7) (x' := { x with vr := v7, r := r7 }) TS.enc_length hrow hx (by decide) rfl
  · rw [List.set_eq_take_append_cons_drop, if_pos hk] at hy
    rcases List.mem_append.1 hy with hy | hy
    · have hyt := List.mem_of_mem_take hy
      obtain ⟨y0, y1, y2⟩ := (h.g.sl.deep y hyt).kept hg (fun u hu => hXt y (List.mem_append.2 (.inl hy)) u hu _ hr)
      exact ⟨aG y0 (by decide), aG y1 (by decide), aG y2 (by decide)⟩
    · rcases List.mem_cons.1 hy with rfl | hy
      · exact ⟨aG (x0.keep hg hX.1.1) (by decide), aG ho (by decide), aG (x2.keep hg hX.2.1.symm) (by decide)⟩
      · have hyt := List.mem_of_mem_drop hy
        obtain ⟨y0, y1, y2⟩ := (h.g.sl.deep y hyt).kept hg (fun u hu => hXt y (List.mem_append.2 (.inr hy)) u hu _ hr)
        exact ⟨aG y0 (by decide), aG y1 (by decide), aG y2 (by decide)⟩
/-- A slot's tries put in place. -/
theorem OEX.setTr {g n c k : Nat} {x : TS} (h : OEX lo w v0 v1 v2 (.slice (some ⟨g, 0, none⟩) n c) base acts vers ts) (hx : ts[k]? = some x) (a : Int) : OES lo (w.setCell ⟨g, k * 6 + 1, none⟩ (.int .i64 a)) v0 v1 v2 (.slice (some ⟨g, 0, none⟩) n c) base acts vers (ts.set k { x with tr := a }) := by
  have aG : ∀ {α : Type} {enc : α → List Value} {e sz : Nat} {v : Value} {l : List α}, Own enc e sz lo w v l → 39 ≠ e → Own enc e sz lo (w.setCell ⟨g, k * 6 + 1, none⟩ (.int .i64 a)) v l := fun o hT => o.setApart _ _ ((h.g.sl.row.apart_type o hT).symm)
  refine ⟨aG h.g.base (by decide), aG h.g.acts (by decide), aG h.g.vers (by decide), Own.setAt (j := 1) (u := .int .i64 a) (x' := { x with tr := a }) TS.enc_length h.g.sl.row hx (by decide) rfl, fun y hy => ?_⟩
  rcases List.mem_or_eq_of_mem_set hy with hy | rfl
  · obtain ⟨y0, y1, y2⟩ := h.g.sl.deep y hy
    exact ⟨aG y0 (by decide), aG y1 (by decide), aG y2 (by decide)⟩
  · obtain ⟨y0, y1, y2⟩ := h.g.sl.deep x (List.mem_of_getElem? hx)
    exact ⟨aG y0 (by decide), aG y1 (by decide), aG y2 (by decide)⟩
end
/-- The slots behind the first one. -/
theorem SS.rest {w : World} {b off n cap m c o : Nat} {l : List Slt} (h : SS w (.slice (some ⟨b, off, none⟩) n cap) l) (hj : 1 ≤ l.length) (hm : m = l.length - 1) (hc : m ≤ c) (ho : o = off + 6) : SS w (.slice (some ⟨b, o, none⟩) m c) (l.drop 1) := by
  obtain ⟨ts, rfl, h2, h3⟩ := h
  rw [List.length_map] at hj hm
  exact ⟨ts.drop 1, by rw [List.map_drop], h2.rest hj hm hc (by omega), fun x hx => h3 x (List.mem_of_mem_drop hx)⟩
theorem SS.last {w : World} {l : List Slt} {a : Option Addr} {c : Nat} (h : l.length = 1) : SS w (.slice a 0 c) (l.drop 1) := by
  have : l.drop 1 = [] := List.drop_of_length_le (by omega)
  rw [this]
  exact ⟨[], rfl, SL.nil _ _ _ _ _, by simp⟩
/-- An engine in memory, in whatever world in which the blocks from lo on stay. -/
def SGK (lo : Nat) (w : World) (v0 v1 v2 v3 : Value) (E : Eng) : Prop := ∀ W, Keep lo w W → SG W v0 v1 v2 v3 E
theorem OES.sgk {lo hi : Nat} {w : World} {v0 v1 v2 v3 : Value} {base : List Ent} {acts : List Actn} {vers : List Ver} {ts : List TS} (h : OES lo w v0 v1 v2 v3 base acts vers ts) (hle : hi ≤ lo) : SGK hi w v0 v1 v2 v3 ⟨base, acts, vers, ts.map TS.core⟩ := fun _ hk => (h.keepHi hk hle).sg
end Go.Proofs.Ytnknamddonjnjaa
