/- Plain ground: an engine in a box beside the reader, while it is drawn. Walks: drawn scripts of engines. -/
import Derived.Test.YtnknamddonjnjaaGEoVTop30
import Derived.Test.YtnknamddonjnjaaGEoVTop09
set_option linter.unusedSimpArgs false
set_option linter.unusedVariables false
namespace Go.Proofs.Ytnknamddonjnjaa
open Go Go.RowKit Go.Proofs

/-- An engine in the box G beside the reader, at the end of its drawing. -/
structure EY (rb B G : Nat) (lim : Int) (w0 w wr : World) (u0 u1 u2 u3 : Value) (E : Eng) : Prop where
  gb : w.grownBy wr (some rb)
  rd : Rd w0 wr rb lim
  res : wr.heap[B]? = some (.cells #[.slice none 0 0, .slice none 0 0, .slice none 0 0, .slice none 0 0] 28 (0, 0))
  box : wr.heap[G]? = some (.cells #[u0, u1, u2, u3] 28 (0, 0))
  sg : SGK (G + 1) wr u0 u1 u2 u3 E
  vl : E.vers.length ≤ 1000
  hrb : rb < w.heap.size
  hB : w.heap.size ≤ B
  hG : B < G
/-- An engine in the box G beside the reader, whose parts lie apart. -/
structure EX (rb B G lo : Nat) (lim : Int) (w0 w wr : World) (u0 u1 u2 u3 : Value) (base : List Ent) (acts : List Actn) (vers : List Ver) (ts : List TS) : Prop where
  gb : w.grownBy wr (some rb)
  rd : Rd w0 wr rb lim
  res : wr.heap[B]? = some (.cells #[.slice none 0 0, .slice none 0 0, .slice none 0 0, .slice none 0 0] 28 (0, 0))
  box : wr.heap[G]? = some (.cells #[u0, u1, u2, u3] 28 (0, 0))
  ox : OEX lo wr u0 u1 u2 u3 base acts vers ts
  vl : vers.length ≤ 999
  hrb : rb < w.heap.size
  hB : w.heap.size ≤ B
  hG : B < G
  hlo : G < lo
section
variable {rb B G lo : Nat} {lim : Int} {w0 w wr W1 w7 : World} {u0 u1 u2 u3 v7 : Value} {base : List Ent} {acts : List Actn} {vers V : List Ver} {ts : List TS} {o : Obj} {E : Eng}
theorem OEG.upR (h : OEG lo wr u0 u1 u2 u3 base acts vers ts) (hlt : rb < lo) (z : ExtR rb wr) : OEG lo z.val u0 u1 u2 u3 base acts vers ts :=
  ⟨h.base.upR hlt z, h.acts.upR hlt z, h.vers.upR hlt z, ⟨h.sl.row.upR hlt z, fun x hx => ⟨(h.sl.deep x hx).1.upR hlt z, (h.sl.deep x hx).2.1.upR hlt z, (h.sl.deep x hx).2.2.upR hlt z⟩, h.sl.out, h.sl.pw⟩⟩
theorem OEX.upR (h : OEX lo wr u0 u1 u2 u3 base acts vers ts) (hlt : rb < lo) (z : ExtR rb wr) : OEX lo z.val u0 u1 u2 u3 base acts vers ts :=
  ⟨⟨h.g.base.upR hlt z, h.g.acts.upR hlt z, h.g.vers.upR hlt z, ⟨h.g.sl.row.upR hlt z, fun x hx => ⟨(h.g.sl.deep x hx).1.upR hlt z, (h.g.sl.deep x hx).2.1.upR hlt z, (h.g.sl.deep x hx).2.2.upR hlt z⟩, h.g.sl.out, h.g.sl.pw⟩⟩, h.a0, h.a1, h.a2, h.i0⟩
theorem EX.upR (h : EX rb B G lo lim w0 w wr u0 u1 u2 u3 base acts vers ts) (z : ExtR rb wr) {lim' : Int} (hr : Rd w0 z.val rb lim') : EX rb B G lo lim' w0 w z.val u0 u1 u2 u3 base acts vers ts := by
  have h1 := h.hrb; have h2 := h.hB; have h3 := h.hG; have h4 := h.hlo
  exact ⟨GB.upR h.gb z, hr, (z.block (Array.getElem?_eq_some_iff.1 h.res).1 (by omega)).trans h.res, (z.block (Array.getElem?_eq_some_iff.1 h.box).1 (by omega)).trans h.box, h.ox.upR (by omega) z, h.vl, h1, h2, h3, h4⟩
theorem EX.alloc (h : EX rb B G lo lim w0 w wr u0 u1 u2 u3 base acts vers ts) (o : Obj) : EX rb B G lo lim w0 w (wr.alloc o) u0 u1 u2 u3 base acts vers ts :=
  ⟨GB.alloc h.gb o, h.rd.alloc o, row_up ((Ext.refl _).alloc o) h.res, row_up ((Ext.refl _).alloc o) h.box, h.ox.up ((Ext.refl _).alloc o), h.vl, h.hrb, h.hB, h.hG, h.hlo⟩
theorem EX.drew (h : EX rb B G lo lim w0 w wr u0 u1 u2 u3 base acts vers ts) : EX rb B G lo lim w0 w wr.drew u0 u1 u2 u3 base acts vers ts :=
  ⟨GB.drew h.gb, h.rd.up (Ext.refl _).drew, row_up (Ext.refl _).drew h.res, row_up (Ext.refl _).drew h.box, h.ox.up (Ext.refl _).drew, h.vl, h.hrb, h.hB, h.hG, h.hlo⟩
theorem EX.ey (h : EX rb B G lo lim w0 w wr u0 u1 u2 u3 base acts vers ts) : EY rb B G lim w0 w wr u0 u1 u2 u3 ⟨base, acts, vers, ts.map TS.core⟩ :=
  ⟨h.gb, h.rd, h.res, h.box, h.ox.oes.sgk h.hlo, by have := h.vl; show vers.length ≤ 1000; omega, h.hrb, h.hB, h.hG⟩
theorem EX.ofOES {W : World} {ts' : List TS} {vers' : List Ver} {u2' : Value} (h : EX rb B G lo lim w0 w wr u0 u1 u2 u3 base acts vers ts) (gb : w.grownBy W (some rb)) (rd : Rd w0 W rb lim) (rB : W.heap[B]? = wr.heap[B]?) (rG : W.heap[G]? = some (.cells #[u0, u1, u2', u3] 28 (0, 0))) (ho : OES lo W u0 u1 u2' u3 base acts vers' ts') (hvl : vers'.length ≤ 1000) :
    EY rb B G lim w0 w W u0 u1 u2' u3 ⟨base, acts, vers', ts'.map TS.core⟩ := ⟨gb, rd, rB.trans h.res, rG, ho.sgk h.hlo, hvl, h.hrb, h.hB, h.hG⟩
theorem EX.glo {g n c : Nat} (h : EX rb B G lo lim w0 w wr u0 u1 u2 (.slice (some ⟨g, 0, none⟩) n c) base acts vers ts) : lo ≤ g ∧ g < wr.heap.size := World.ownsRow.lt h.ox.g.sl.row g rfl
/-- The engine behind its first run: written into its box. -/
theorem EX.ofRun {z4 z5 : World} {c0 c1 c2 c3 : Value} {B G : Nat} (gb : w.grownBy z4 (some rb)) (rd : Rd w0 z4 rb lim) (rB : z4.heap[B]? = some (.cells #[.slice none 0 0, .slice none 0 0, .slice none 0 0, .slice none 0 0] 28 (0, 0))) (rG : z4.heap[G]? = some (.cells #[c0, c1, c2, c3] 28 (0, 0))) (hE : Ext z4 z5) (ho : OEX z4.heap.size z5 u0 u1 u2 u3 base acts vers ts) (hvl : vers.length ≤ 999) (hrb : rb < w.heap.size) (hB : w.heap.size ≤ B) (hG : B < G) :
    EX rb B G z4.heap.size lim w0 w ((((z5.setCell ⟨G, 0, none⟩ u0).setCell ⟨G, 1, none⟩ u1).setCell ⟨G, 2, none⟩ u2).setCell ⟨G, 3, none⟩ u3) u0 u1 u2 u3 base acts vers ts := by
  have h6 := rd.old
  have hGl := (Array.getElem?_eq_some_iff.1 rG).1
  have g5 : w.grownBy z5 (some rb) := grownBy_trans gb (grownBy_ext hE)
  exact ⟨GB.setNew (GB.setNew (GB.setNew (GB.setNew g5 (by omega) _ _) (by omega) _ _) (by omega) _ _) (by omega) _ _, (((rd.up hE).set _ _ (by omega) (by omega)).set _ _ (by omega) (by omega) |>.set _ _ (by omega) (by omega)).set _ _ (by omega) (by omega),
    (set4_ne z5 (show B ≠ G by omega) _ _ _ _).trans (row_up hE rB), set4_row (row_up hE rG) _ _ _ _, ho.set4 (row_up hE rG) _ _ _ _, hvl, hrb, hB, hG, hGl⟩
/-- Some engine in the box G whose parts lie apart, none of them long. -/
def EXs (rb B G : Nat) (lim : Int) (w0 w wr : World) : Prop := ∃ lo u0 u1 u2 u3 base acts vers, ∃ ts : List TS, EX rb B G lo lim w0 w wr u0 u1 u2 u3 base acts vers ts ∧ ts.length ≤ 1000 ∧ ∀ x ∈ ts, x.r.length ≤ 1000
theorem small_ts {E : Eng} (hI : E.Inv ∨ E = ⟨[], [], [], []⟩) (ht : ts.map TS.core = E.sl) : E.vers.length ≤ 999 ∧ ts.length ≤ 1000 ∧ ∀ x ∈ ts, x.r.length ≤ 1000 := by
  rcases hI with hi | hi
  · obtain ⟨_, _, _, n3, n4⟩ := hi.parts
    have n2 := hi.vok.2
    rw [← ht] at n3 n4
    rw [List.length_map] at n3
    exact ⟨by omega, n3, fun x hx => (n4 _ (List.mem_map.2 ⟨x, hx, rfl⟩)).2.1⟩
  · subst hi
    obtain rfl := List.map_eq_nil_iff.1 (show ts.map TS.core = [] from ht)
    simp
/-- A slot's stage is put in place. -/
theorem EX.setSt {g n c k : Nat} {x : TS} (h : EX rb B G lo lim w0 w wr u0 u1 u2 (.slice (some ⟨g, 0, none⟩) n c) base acts vers ts) (hx : ts[k]? = some x) (a : Int) :
    EY rb B G lim w0 w (wr.setCell ⟨g, k * 6, none⟩ (.int .i64 a)) u0 u1 u2 (.slice (some ⟨g, 0, none⟩) n c) ⟨base, acts, vers, (ts.set k { x with st := a }).map TS.core⟩ := by
  have h1 := h.hrb; have h2 := h.hB; have h3 := h.hG; have h4 := h.hlo
  have h5 := (World.ownsRow.lt h.ox.g.sl.row g rfl).1
  have h6 := h.rd.old
  refine h.ofOES (GB.setNew h.gb (by omega) _ _) (h.rd.set _ _ (by omega) (by omega)) (Below.heap_setCell _ _ _ _ (by dsimp only; omega)) ((Below.heap_setCell _ _ _ _ (by dsimp only; omega)).trans h.box) (h.ox.setSt hx a).oes (by have := h.vl; omega)
/-- A slot's tries are put in place. -/
theorem EX.setTr {g n c k : Nat} {x : TS} (h : EX rb B G lo lim w0 w wr u0 u1 u2 (.slice (some ⟨g, 0, none⟩) n c) base acts vers ts) (hx : ts[k]? = some x) (a : Int) :
    EY rb B G lim w0 w (wr.setCell ⟨g, k * 6 + 1, none⟩ (.int .i64 a)) u0 u1 u2 (.slice (some ⟨g, 0, none⟩) n c) ⟨base, acts, vers, (ts.set k { x with tr := a }).map TS.core⟩ := by
  have h1 := h.hrb; have h2 := h.hB; have h3 := h.hG; have h4 := h.hlo
  have h5 := (World.ownsRow.lt h.ox.g.sl.row g rfl).1
  have h6 := h.rd.old
  refine h.ofOES (GB.setNew h.gb (by omega) _ _) (h.rd.set _ _ (by omega) (by omega)) (Below.heap_setCell _ _ _ _ (by dsimp only; omega)) ((Below.heap_setCell _ _ _ _ (by dsimp only; omega)).trans h.box) (h.ox.setTr hx a) (by have := h.vl; omega)
theorem GB.grown {v : Value} {α : Type} {enc : α → List Value} {e sz : Nat} {l : List α} (hG : w.grownBy wr (some rb)) (ho : Own enc e sz lo wr v l) (hlo : w.heap.size ≤ lo) (g7 : wr.grownBy w7 v.ownBlock) : w.grownBy w7 (some rb) := by
  refine ⟨g7.os.trans hG.os, g7.tape.trans hG.tape, g7.output.trans hG.output, Nat.le_trans hG.size g7.size, fun n hn hne => ?_⟩
  refine (g7.block n (Nat.lt_of_lt_of_le hn hG.size) (fun e => ?_)).trans (hG.block n hn hne)
  have := (World.ownsRow.lt ho n e.symm).1
  omega
theorem grown_at {v : Value} {α : Type} {enc : α → List Value} {e sz n : Nat} {l : List α} (ho : Own enc e sz lo wr v l) (g7 : wr.grownBy w7 v.ownBlock) (hn : n < lo) (hn2 : n < wr.heap.size) : w7.heap[n]? = wr.heap[n]? :=
  g7.block n hn2 (fun e => by have := (World.ownsRow.lt ho n e.symm).1; omega)
/-- Versions are put behind the versions. -/
theorem EX.pushV (h : EX rb B G lo lim w0 w wr u0 u1 u2 u3 base acts vers ts) (hE : Ext w0 w7) (g7 : wr.grownBy w7 u2.ownBlock) (ho : Own Ver.enc 32 3 lo w7 v7 V) (hV : V.length ≤ 1000) :
    EY rb B G lim w0 w (w7.setCell ⟨G, 2, none⟩ v7) u0 u1 v7 u3 ⟨base, acts, V, ts.map TS.core⟩ := by
  have h1 := h.hrb; have h2 := h.hB; have h3 := h.hG; have h4 := h.hlo
  have h6 := h.rd.old
  have hGl := (Array.getElem?_eq_some_iff.1 h.box).1
  have kB := grown_at h.ox.g.vers g7 (n := B) (by omega) (by omega)
  have kG := grown_at h.ox.g.vers g7 (n := G) (by omega) hGl
  have kR := grown_at h.ox.g.vers g7 (n := rb) (by omega) h.rd.lt
  refine h.ofOES (GB.setNew (GB.grown h.gb h.ox.g.vers (by omega) g7) (by omega) _ _) ((h.rd.grown hE kR).set _ _ (by omega) (by omega)) ((Below.heap_setCell _ _ _ _ (by dsimp only; omega)).trans kB) ((heap_setCell_same _ _ 2 _ _ _ (kG.trans h.box)).trans rfl) ((h.ox.pushV g7 ho).setOld _ _ h.hlo) hV
/-- Entries are put behind what a slot's effect reads. -/
theorem EX.pushR {g n c k : Nat} {x : TS} {r7 : List Ent} (h : EX rb B G lo lim w0 w wr u0 u1 u2 (.slice (some ⟨g, 0, none⟩) n c) base acts vers ts) (hx : ts[k]? = some x) (hE : Ext w0 w7) (g7 : wr.grownBy w7 x.vr.ownBlock) (ho : Own Ent.enc 59 2 lo w7 v7 r7) :
    EY rb B G lim w0 w (w7.setCell ⟨g, k * 6 + 4, none⟩ v7) u0 u1 u2 (.slice (some ⟨g, 0, none⟩) n c) ⟨base, acts, vers, (ts.set k { x with vr := v7, r := r7 }).map TS.core⟩ := by
  have h1 := h.hrb; have h2 := h.hB; have h3 := h.hG; have h4 := h.hlo
  have h5 := (World.ownsRow.lt h.ox.g.sl.row g rfl).1
  have h6 := h.rd.old
  have hGl := (Array.getElem?_eq_some_iff.1 h.box).1
  have hr := (h.ox.g.sl.deep x (List.mem_of_getElem? hx)).2.1
  have kB := grown_at hr g7 (n := B) (by omega) (by omega)
  have kG := grown_at hr g7 (n := G) (by omega) hGl
  have kR := grown_at hr g7 (n := rb) (by omega) h.rd.lt
  refine h.ofOES (GB.setNew (GB.grown h.gb hr (by omega) g7) (by omega) _ _) ((h.rd.grown hE kR).set _ _ (by omega) (by omega)) ((Below.heap_setCell _ _ _ _ (by dsimp only; omega)).trans kB) ((Below.heap_setCell _ _ _ _ (by dsimp only; omega)).trans (kG.trans h.box)) (h.ox.pushR hx g7 ho) (by have := h.vl; omega)
/-- The first slot is left out. -/
theorem EX.tail {g n c m d o : Nat} (h : EX rb B G lo lim w0 w wr u0 u1 u2 (.slice (some ⟨g, 0, none⟩) n c) base acts vers ts) (hn : n = ts.length) (h0 : 1 ≤ n) (hm : m = n - 1) (hd : m ≤ d) (ho : o = 6 ∨ n = 1) :
    EY rb B G lim w0 w (wr.setCell ⟨G, 3, none⟩ (.slice (some ⟨g, o, none⟩) m d)) u0 u1 u2 (.slice (some ⟨g, o, none⟩) m d) ⟨base, acts, vers, (ts.map TS.core).drop 1⟩ := by
  have h1 := h.hrb; have h2 := h.hB; have h3 := h.hG; have h4 := h.hlo
  have h6 := h.rd.old
  refine ⟨GB.setNew h.gb (by omega) _ _, h.rd.set _ _ (by omega) (by omega), (Below.heap_setCell _ _ _ _ (by dsimp only; omega)).trans h.res, (heap_setCell_same _ _ 3 _ _ _ h.box).trans rfl, fun W hk => ?_, by have := h.vl; show vers.length ≤ 1000; omega, h1, h2, h3⟩
  have hs := ((h.ox.oes.setOld ⟨G, 3, none⟩ (.slice (some ⟨g, o, none⟩) m d) h.hlo).keepHi hk (by omega)).sg
  refine ⟨hs.base, hs.acts, hs.vers, ?_⟩
  have hs3 := hs.sl
  by_cases h1' : n = 1
  · obtain rfl : m = 0 := by omega
    exact SS.last (by rw [List.length_map]; omega)
  · exact hs3.rest (by rw [List.length_map]; omega) (by rw [List.length_map]; omega) hd (by omega)
/-- The end of the drawing: the engine is stored in the result's box. -/
theorem EY.fin (h : EY rb B G lim w0 w wr u0 u1 u2 u3 E) : (∃ z : ExtR rb w, set4 wr B u0 u1 u2 u3 = z.val) ∧ Rd w0 (set4 wr B u0 u1 u2 u3) rb lim ∧ SGK w.heap.size (set4 wr B u0 u1 u2 u3) u0 u1 u2 u3 E := by
  have h1 := h.hrb; have h2 := h.hB; have h3 := h.hG
  have h6 := h.rd.old
  refine ⟨ExtR.of ?_, ?_, fun W hk => h.sg W (Keep.trans ?_ (hk.mono (by omega)))⟩
  · exact GB.setNew (GB.setNew (GB.setNew (GB.setNew h.gb h2 _ _) h2 _ _) h2 _ _) h2 _ _
  · exact (((h.rd.set _ _ (by omega) (by omega)).set _ _ (by omega) (by omega)).set _ _ (by omega) (by omega)).set _ _ (by omega) (by omega)
  · exact ⟨by rw [set4_sz]; exact Nat.le_refl _, fun k hk _ => set4_ne wr (show k ≠ B by omega) _ _ _ _⟩
end
end Go.Proofs.Ytnknamddonjnjaa
namespace Go.Proofs.Ytnknamddonjnjaa
open Go Go.RowKit Go.Proofs

set_option maxRecDepth 100000 in
set_option maxHeartbeats 2000000 in
theorem script_any (w0 w : World) (rb : Nat) (lim : Int) (many : Nat) (h : Rd w0 w rb lim) (hl : lim ≤ 100000) (hn1 : many ≤ 1000000) :
    Calls Try.prog 33 #[.pointer (some ⟨rb, 0, none⟩), .int .i64 (many : Int)] w fun e w' => ∃ v' l, e = .returned v' ∧ l.length ≤ 15 ∧ (∃ z : ExtR rb w, w' = z.val) ∧ Rd w0 w' rb (lim + 100) ∧ Own encI 3 1 w.heap.size w' v' l := by
  have H := Lib.hid h
  have hL : LtS rb w := ⟨h.lt⟩
  have hLe : w0.heap.size ≤ w.heap.size := h.ext.size
  have hlt := h.lt
  clear h
  go_enter Try.func33, Try.ntmps33
  go_wp2_with fail
  refine (pick_any w0 _ rb lim 16 (H.out.up (by repeat (first | (with_reducible exact Ext.refl _) | (with_reducible refine Ext.up ?_ _) | (with_reducible refine Ext.alloc ?_ _) | (with_reducible refine Ext.drew ?_) | (with_reducible refine Ext.setRow ?_ (by first | exact LeS.le | exact LeS.add _ | (simp; done) | (simp; omega)) _) | (with_reducible refine Ext.setCell ?_ (by first | exact LeS.le | exact LeS.add _ | (simp; done) | (simp; omega)) _)))) (by omega) (by omega) (by omega)).mono ?_; rintro e w' ⟨j0, rfl, j00, j01, j02, ⟨z0, rfl⟩, hr⟩
  have H0 := Lib.hid hr
  have hj := j01 (by omega)
  clear hr j01 j02
  go_wp2_with fail
  go_loopw [5, 6] (fun s5 s6 wr => ∃ (j : Int) (out : List Int), s6 = .int .i64 j ∧ 0 ≤ j ∧ j ≤ 15 ∧ out.length + j ≤ 15 ∧ (∃ z : ExtR rb w, wr = z.val) ∧ Rd w0 wr rb (lim + 80 - 4 * j) ∧ Own encI 3 1 w.heap.size wr s5 out) (fun _ s6 _ => (intOf s6).toNat)
  case atStart =>
    refine ⟨j0, [], rfl, j00, by omega, by simp; omega, ExtR.of (by repeat (first | (with_reducible exact grownBy_refl _ _) | (with_reducible refine GB.setNew ?_ (by first | exact LeS.le | exact LeS.add _ | (simp; done) | (simp; omega)) _ _) | (with_reducible refine GB.alloc ?_ _) | (with_reducible refine GB.drew ?_) | (with_reducible refine GB.upR ?_ _) | (with_reducible refine GB.up ?_ _))), H0.out.mono (by omega), ?_⟩
    have o0 : Own encI 3 1 w.heap.size (w.alloc (.cells #[] 3)) (.slice (some ⟨w.heap.size, 0, none⟩) 0 0) [] := Own.lit rfl (Nat.le_refl _) rfl rfl encI_length (by simp)
    exact Own.upR o0 hlt z0
  case round =>
    obtain ⟨j, out, rfl, jj0, jj6, hol, ⟨z, rfl⟩, hr, hown⟩ := hrel
    have H1 := Lib.hid hr; have HO := Lib.hid hown
    have hLz : LtS rb z.val := ⟨hr.lt⟩
    clear hr hown
    by_cases hjz : 0 < j
    · by_cases hm : (many : Int) ≤ 1
      · go_wp2_with fail
        refine (pick_any w0 _ rb _ _ H1.out (by omega) (by omega) (by omega)).mono ?_; rintro e w' ⟨a, rfl, a0, a1, -, ⟨z1, rfl⟩, hr⟩
        have H2 := Lib.hid hr; clear hr
        have HO1 := Lib.hid (HO.out.upR hlt z1)
        go_wp2_with fail
        refine (pick_any w0 _ rb _ 24 H2.out (by omega) (by omega) (by omega)).mono ?_; rintro e w' ⟨b, rfl, b0, b1, -, ⟨z2, rfl⟩, hr⟩
        have H3 := Lib.hid hr; clear hr
        have HO2 := Lib.hid (HO1.out.upR hlt z2)
        have hLz2 : LtS rb z2.val := ⟨H3.out.lt⟩
        have a1 := a1 (by omega)
        obtain ⟨m, hm0⟩ : ∃ m : Int, IntKind.i64.wrap (b.tdiv 23) = m := ⟨_, rfl⟩
        obtain ⟨x, hx0⟩ : ∃ x : Int, IntKind.i64.wrap (a - m) = x := ⟨_, rfl⟩
        go_wp2_with (at_builtin; refine wpList_pushG fI rfl (.tmp 14) (.tmp 24) rfl encI encI_length w0 (lo := w.heap.size) [x] out rfl HO2.out H3.out.ext hLe LeS.le rfl rfl (by go_simp) rfl ((by intro u hu; obtain ⟨y, _, h⟩ := List.mem_flatMap.1 hu; exact oneI y u h)) (by simp; omega) (by simp; omega) ?_; intro v7 z7 o7 g7 b7; obtain ⟨R7, E7⟩ := rd_push (w := w) H3.out (GB.upR (GB.upR z.grown z1) z2) HO2.out hlt (Nat.le_refl _) z7.ext g7; clear g7 b7)
        have HO7 := Lib.hid o7; have HR7 := Lib.hid R7
        clear o7 R7
        go_wp2_with fail
        go_roundw
        case rel => exact ⟨j - 1, out ++ [x], by go_num, by omega, by omega, by rw [List.length_append]; simp; omega, E7, HR7.out.mono (by omega), HO7.out⟩
        case measure => simp [intOf]; omega
      · go_wp2_with fail
        refine (pick_any w0 _ rb _ _ H1.out (by omega) (by omega) (by omega)).mono ?_; rintro e w' ⟨a, rfl, a0, a1, -, ⟨z1, rfl⟩, hr⟩
        have H2 := Lib.hid hr; clear hr
        have HO1 := Lib.hid (HO.out.upR hlt z1)
        go_wp2_with fail
        refine (pick_any w0 _ rb _ 24 H2.out (by omega) (by omega) (by omega)).mono ?_; rintro e w' ⟨b, rfl, b0, b1, -, ⟨z2, rfl⟩, hr⟩
        have H3 := Lib.hid hr; clear hr
        have HO2 := Lib.hid (HO1.out.upR hlt z2)
        have hLz2 : LtS rb z2.val := ⟨H3.out.lt⟩
        have a1 := a1 (by omega)
        obtain ⟨m, hm0⟩ : ∃ m : Int, IntKind.i64.wrap (b.tdiv 23) = m := ⟨_, rfl⟩
        obtain ⟨x, hx0⟩ : ∃ x : Int, IntKind.i64.wrap (a - m) = x := ⟨_, rfl⟩
        go_wp2_with (at_builtin; refine wpList_pushG fI rfl (.tmp 14) (.tmp 24) rfl encI encI_length w0 (lo := w.heap.size) [x] out rfl HO2.out H3.out.ext hLe LeS.le rfl rfl (by go_simp) rfl ((by intro u hu; obtain ⟨y, _, h⟩ := List.mem_flatMap.1 hu; exact oneI y u h)) (by simp; omega) (by simp; omega) ?_; intro v7 z7 o7 g7 b7; obtain ⟨R7, E7⟩ := rd_push (w := w) H3.out (GB.upR (GB.upR z.grown z1) z2) HO2.out hlt (Nat.le_refl _) z7.ext g7; clear g7 b7)
        have HO7 := Lib.hid o7; have HR7 := Lib.hid R7
        clear o7 R7
        go_wp2_with fail
        go_roundw
        case rel => exact ⟨j - 1, out ++ [x], by go_num, by omega, by omega, by rw [List.length_append]; simp; omega, E7, HR7.out.mono (by omega), HO7.out⟩
        case measure => simp [intOf]; omega
    · obtain rfl : j = 0 := by omega
      go_wp2_with fail
      go_ret
      first | exact ⟨_, out, rfl, by omega, ⟨z, rfl⟩, H1.out.mono (by omega), HO.out⟩ | exact ⟨out, _, rfl, by omega, ⟨z, rfl⟩, H1.out.mono (by omega), HO.out⟩ | exact ⟨_, rfl, out, by omega, ⟨z, rfl⟩, H1.out.mono (by omega), HO.out⟩ | trace_state
end Go.Proofs.Ytnknamddonjnjaa
