/- Plain ground: trees of the call's own that grow by a block and by a number. Plain ground: the tree in a box of its own while it grows, beside the reader. Plain ground: trees of the call's own in which one number is turned, or that have an entry more. Plain laws: engines: a step. Plain ground: engines: a slot that is put in place. -/
import Derived.Test.YtnknamddonjnjaaGEoVTop21
import Derived.Test.YtnknamddonjnjaaGEoVTop24
import Derived.Test.YtnknamddonjnjaaGEoVTop14
import Derived.Test.YtnknamddonjnjaaGEoVTop22
import Derived.Test.YtnknamddonjnjaaGEoVTop25
set_option linter.unusedSimpArgs false
set_option linter.unusedVariables false
namespace Go.Proofs.Ytnknamddonjnjaa
open Go Go.RowKit Go.Proofs

section
variable {eE eB eA eI lo : Nat} {w w' : World} {v0 v1 v2 : Value} {base : List Ent} {bs : List TB} {pr : List Int}
theorem off_row {α : Type} {enc : α → List Value} {e sz : Nat} {v : Value} {l : List α} (h : Own enc e sz lo w v l) {X : Nat} (hX : X < lo ∨ w.heap.size ≤ X) : v.ownBlock ≠ some X := by
  intro e
  have := World.ownsRow.lt h X e
  omega
theorem OTA.set (h : OTA eE eB eA eI lo w v0 v1 v2 base bs pr) {X : Nat} (i : Nat) (u : Value) (h0 : v0.ownBlock ≠ some X) (h1 : v1.ownBlock ≠ some X) (h2 : v2.ownBlock ≠ some X) (hb : ∀ x ∈ bs, x.v.ownBlock ≠ some X) :
    OTA eE eB eA eI lo (w.setCell ⟨X, i, none⟩ u) v0 v1 v2 base bs pr :=
  ⟨h.obase.setApart i u (.inr h0), ⟨h.obs.1.setApart i u (.inr h1), fun x hx => ⟨(h.obs.2.1 x hx).1.setApart i u (.inr (hb x hx)), (h.obs.2.1 x hx).2⟩, h.obs.2.2⟩, h.opr.setApart i u (.inr h2), h.a01, h.a21, h.a02, h.in0, h.in2⟩
theorem OTA.setOld (h : OTA eE eB eA eI lo w v0 v1 v2 base bs pr) (a : Addr) (u : Value) (hlt : a.block < lo) : OTA eE eB eA eI lo (w.setCell a u) v0 v1 v2 base bs pr :=
  ⟨h.obase.setOld a u hlt, h.obs.setOld a u hlt, h.opr.setOld a u hlt, h.a01, h.a21, h.a02, h.in0, h.in2⟩
theorem OTA.off (h : OTA eE eB eA eI lo w v0 v1 v2 base bs pr) {X : Nat} (hX : X < lo ∨ w.heap.size ≤ X) : v0.ownBlock ≠ some X ∧ v1.ownBlock ≠ some X ∧ v2.ownBlock ≠ some X ∧ ∀ x ∈ bs, x.v.ownBlock ≠ some X :=
  ⟨off_row h.obase hX, off_row h.obs.1 hX, off_row h.opr hX, fun x hx => off_row (h.obs.2.1 x hx).1 hX⟩
theorem OTA.new {α : Type} {enc : α → List Value} {e sz lo' : Nat} {w2 : World} {v : Value} {l : List α} (h : OTA eE eB eA eI lo w v0 v1 v2 base bs pr) (o : Own enc e sz lo' w2 v l) (hl : w.heap.size ≤ lo') : Apart v0 v ∧ Apart v1 v ∧ Apart v2 v ∧ ∀ x ∈ bs, Apart x.v v :=
  ⟨Apart.of_lt h.obase o hl, Apart.of_lt h.obs.1 o hl, Apart.of_lt h.opr o hl, fun x hx => Apart.of_lt (h.obs.2.1 x hx).1 o hl⟩
theorem OTA.snocB {v1' : Value} {x : TB} (h : OTA eE eB eA eI lo w v0 v1 v2 base bs pr) (hg : w.grownBy w' v1.ownBlock) (hb : v1'.ownBlock = v1.ownBlock ∨ v1'.ownBlock = some w.heap.size)
    (ho : Own TB.enc eB 6 lo w' v1' (bs ++ [x])) (hx : Own Actn.enc eA 4 lo w x.v x.l) (a0 : Apart v0 x.v) (a1 : Apart v1 x.v) (a2 : Apart v2 x.v) (ab : ∀ y ∈ bs, Apart y.v x.v) : OTA eE eB eA eI lo w' v0 v1' v2 base (bs ++ [x]) pr := by
  refine ⟨h.obase.keep hg h.a01, h.obs.snoc hg hb ho hx a1.symm ab, h.opr.keep hg h.a21, Apart.grown h.obase h.a01 (Nat.le_refl _) hb, Apart.grown h.opr h.a21 (Nat.le_refl _) hb, h.a02, fun y hy => ?_, fun y hy => ?_⟩
  · rcases List.mem_append.1 hy with hy | hy
    · exact h.in0 y hy
    · rw [List.mem_singleton] at hy; subst hy; exact a0.symm
  · rcases List.mem_append.1 hy with hy | hy
    · exact h.in2 y hy
    · rw [List.mem_singleton] at hy; subst hy; exact a2.symm
theorem OTA.snocI {v2' : Value} {n : Int} (h : OTA eE eB eA eI lo w v0 v1 v2 base bs pr) (hg : w.grownBy w' v2.ownBlock) (hb : v2'.ownBlock = v2.ownBlock ∨ v2'.ownBlock = some w.heap.size)
    (ho : Own encI eI 1 lo w' v2' (pr ++ [n])) : OTA eE eB eA eI lo w' v0 v1 v2' base bs (pr ++ [n]) := by
  refine ⟨h.obase.keep hg h.a02, ⟨h.obs.1.keep hg h.a21.symm, fun x hx => ⟨(h.obs.2.1 x hx).1.keep hg (h.in2 x hx), (h.obs.2.1 x hx).2⟩, h.obs.2.2⟩, ho, h.a01, ?_, Apart.grown h.obase h.a02 (Nat.le_refl _) hb, h.in0, fun x hx => Apart.grown (h.obs.2.1 x hx).1 (h.in2 x hx) (Nat.le_refl _) hb⟩
  exact (Apart.grown h.obs.1 h.a21.symm (Nat.le_refl _) hb).symm
theorem OTA.upR {rb : Nat} (h : OTA eE eB eA eI lo w v0 v1 v2 base bs pr) (hlt : rb < lo) (z : ExtR rb w) : OTA eE eB eA eI lo z.val v0 v1 v2 base bs pr :=
  ⟨h.obase.upR hlt z, ⟨h.obs.1.upR hlt z, fun x hx => ⟨(h.obs.2.1 x hx).1.upR hlt z, (h.obs.2.1 x hx).2⟩, h.obs.2.2⟩, h.opr.upR hlt z, h.a01, h.a21, h.a02, h.in0, h.in2⟩
theorem OT.ota {hi : Nat} (h : OT eE eB eA eI lo hi w v0 v1 v2 base bs pr) : OTA eE eB eA eI lo w v0 v1 v2 base bs pr := by
  obtain ⟨s1, s2, a, b, c, h1, h2, h3, h4, h5, h6, h7⟩ := h
  exact ⟨h1, h3.lo a, h6.lo (by omega), (h3.1.apartU h2 (Nat.le_refl _)).symm, h6.apartU h4 (Nat.le_refl _), (h6.apartU (h2.le b) (Nat.le_refl _)).symm, fun x hx => (h3.2.1 x hx).1.apartU h2 (Nat.le_refl _), fun x hx => (h6.apartU (h5 x hx) (Nat.le_refl _)).symm⟩
end
end Go.Proofs.Ytnknamddonjnjaa
namespace Go.Proofs.Ytnknamddonjnjaa
open Go Go.RowKit Go.Proofs

theorem S_of_gb {W w' : World} {rb : Nat} (h : W.grownBy w' (some rb)) : (∀ n i, ∀ [LtS n W] [NeS n rb], w'.cell? ⟨n, i, none⟩ = W.cell? ⟨n, i, none⟩) ∧ W.grownBy w' (some rb) := ⟨fun n i => (⟨w', h⟩ : ExtR rb W).cell n i, h⟩
theorem S_of_gbX {W w' : World} {rb G : Nat} (h : W.grownBy w' (some rb)) : ∀ n i, ∀ [LtS n W] [NeS n rb] [NeS n G], w'.cell? ⟨n, i, none⟩ = W.cell? ⟨n, i, none⟩ := fun n i => (⟨w', h⟩ : ExtR rb W).cell n i
theorem cell_setX (W : World) (G j : Nat) (a : Value) (n i : Nat) [h : NeS n G] : (W.setCell ⟨G, j, none⟩ a).cell? ⟨n, i, none⟩ = W.cell? ⟨n, i, none⟩ := by
  simp only [World.cell?, Below.heap_setCell W ⟨G, j, none⟩ a n h.ne]
/-- The tree in the box G while it grows; the result's box stands empty at the call's first number. -/
structure LT (eT eE eB eA eI rb G : Nat) (w wr : World) (u0 u1 u2 : Value) (t : Tree) (bs : List TB) : Prop where
  gb : w.grownBy wr (some rb)
  box : wr.heap[G]? = some (.cells #[u0, u1, u2] eT (0, 0))
  res : wr.heap[w.heap.size]? = some (.cells #[.slice none 0 0, .slice none 0 0, .slice none 0 0] eT (0, 0))
  ot : OTA eE eB eA eI (w.heap.size + 1) wr u0 u1 u2 t.base bs t.pr
  core : bs.map TB.core = t.bs
  ok : t.ok = true
  off : u0.ownBlock ≠ some G ∧ u1.ownBlock ≠ some G ∧ u2.ownBlock ≠ some G ∧ ∀ x ∈ bs, x.v.ownBlock ≠ some G
section
variable {eT eE eB eA eI rb G : Nat} {w wr : World} {u0 u1 u2 : Value} {t : Tree} {bs : List TB}
theorem LT.ltG (h : LT eT eE eB eA eI rb G w wr u0 u1 u2 t bs) : G < wr.heap.size := (Array.getElem?_eq_some_iff.1 h.box).1
theorem LT.ltR (h : LT eT eE eB eA eI rb G w wr u0 u1 u2 t bs) : w.heap.size < wr.heap.size := (Array.getElem?_eq_some_iff.1 h.res).1
theorem LT.st (h : LT eT eE eB eA eI rb G w wr u0 u1 u2 t bs) : ST wr u0 u1 u2 t := h.ot.st' h.core
theorem LT.upR (h : LT eT eE eB eA eI rb G w wr u0 u1 u2 t bs) (hrb : rb < w.heap.size) (hG : w.heap.size < G) (z : ExtR rb wr) : LT eT eE eB eA eI rb G w z.val u0 u1 u2 t bs :=
  ⟨grownBy_trans h.gb z.grown, (z.block h.ltG (by omega)).trans h.box, (z.block h.ltR (by omega)).trans h.res, h.ot.upR (by omega) z, h.core, h.ok, h.off⟩
theorem LT.up {w' : World} (h : LT eT eE eB eA eI rb G w wr u0 u1 u2 t bs) (hE : Ext wr w') : LT eT eE eB eA eI rb G w w' u0 u1 u2 t bs :=
  ⟨grownBy_trans h.gb (grownBy_ext hE), (hE.block h.ltG).trans h.box, (hE.block h.ltR).trans h.res, h.ot.up hE, h.core, h.ok, h.off⟩
theorem LT.setOff {B : Nat} (h : LT eT eE eB eA eI rb G w wr u0 u1 u2 t bs) (i : Nat) (u : Value) (hB : B ≠ G) (hR : w.heap.size < B) (hoff : u0.ownBlock ≠ some B ∧ u1.ownBlock ≠ some B ∧ u2.ownBlock ≠ some B ∧ ∀ x ∈ bs, x.v.ownBlock ≠ some B) :
    LT eT eE eB eA eI rb G w (wr.setCell ⟨B, i, none⟩ u) u0 u1 u2 t bs :=
  ⟨GB.setNew h.gb (by omega) i u, (Below.heap_setCell _ _ _ _ (Ne.symm hB)).trans h.box, (Below.heap_setCell _ _ _ _ (by dsimp only; omega)).trans h.res, h.ot.set i u hoff.1 hoff.2.1 hoff.2.2.1 hoff.2.2.2, h.core, h.ok, h.off⟩
theorem LT.put {lo : Nat} {y0 y1 y2 : Value} {t' : Tree} {bs' : List TB} (h : LT eT eE eB eA eI rb G w wr u0 u1 u2 t bs) (hG : w.heap.size < G) (ho : OTA eE eB eA eI lo wr y0 y1 y2 t'.base bs' t'.pr) (hlo : G < lo) (hc : bs'.map TB.core = t'.bs) (hk : t'.ok = true) :
    LT eT eE eB eA eI rb G w (((wr.setCell ⟨G, 0, none⟩ y0).setCell ⟨G, 1, none⟩ y1).setCell ⟨G, 2, none⟩ y2) y0 y1 y2 t' bs' := by
  have of := ho.off (X := G) (.inl hlo)
  refine ⟨GB.setNew (GB.setNew (GB.setNew h.gb (by omega) _ _) (by omega) _ _) (by omega) _ _, ?_, ?_, ?_, hc, hk, of⟩
  · exact (heap_setCell_same _ _ 2 _ _ _ ((heap_setCell_same _ _ 1 _ _ _ ((heap_setCell_same _ _ 0 _ _ _ h.box).trans rfl)).trans rfl)).trans rfl
  · exact (Below.heap_setCell _ _ _ _ (by dsimp only; omega)).trans ((Below.heap_setCell _ _ _ _ (by dsimp only; omega)).trans ((Below.heap_setCell _ _ _ _ (by dsimp only; omega)).trans h.res))
  · exact (((ho.set 0 y0 of.1 of.2.1 of.2.2.1 of.2.2.2).set 1 y1 of.1 of.2.1 of.2.2.1 of.2.2.2).set 2 y2 of.1 of.2.1 of.2.2.1 of.2.2.2).lo (by omega)
theorem LT.start {lo : Nat} {y0 y1 y2 : Value} (gb : w.grownBy wr (some rb)) (hres : wr.heap[w.heap.size]? = some (.cells #[.slice none 0 0, .slice none 0 0, .slice none 0 0] eT (0, 0))) (ho : OTA eE eB eA eI lo wr y0 y1 y2 t.base bs t.pr) (hlo : w.heap.size + 1 ≤ lo) (hc : bs.map TB.core = t.bs) (hk : t.ok = true) :
    LT eT eE eB eA eI rb wr.heap.size w (wr.alloc (.cells #[y0, y1, y2] eT)) y0 y1 y2 t bs := by
  have of := ho.off (X := wr.heap.size) (.inr (Nat.le_refl _))
  have hlt : w.heap.size < wr.heap.size := (Array.getElem?_eq_some_iff.1 hres).1
  exact ⟨GB.alloc gb _, heap_alloc_new _ _, (heap_alloc_old _ _ hlt).trans hres, (ho.up ((Ext.refl _).alloc _)).lo hlo, hc, hk, of⟩
/-- The tree's block number m, cell for cell. -/
theorem LT.blk (h : LT eT eE eB eA eI rb G w wr u0 u1 u2 t bs) (hrb : rb < w.heap.size) {m : Nat} (hm : m < t.bs.length) : ∃ (xb : Blk) (xl : List Actn) (pv : Option Addr) (cv : Nat) (b off c1 : Nat), u1 = .slice (some ⟨b, off, none⟩) t.bs.length c1 ∧ LtS b wr ∧ NeS b rb ∧ NeS b G ∧
    wr.cell? ⟨b, off + m * 6, none⟩ = some (.int .i64 xb.bf) ∧ wr.cell? ⟨b, off + m * 6 + 1, none⟩ = some (.int .i64 xb.ht) ∧ wr.cell? ⟨b, off + m * 6 + 2, none⟩ = some (.int .i64 xb.vw) ∧ wr.cell? ⟨b, off + m * 6 + 3, none⟩ = some (.slice pv xl.length cv) ∧ wr.cell? ⟨b, off + m * 6 + 4, none⟩ = some (.int .i64 xb.rt) ∧ wr.cell? ⟨b, off + m * 6 + 5, none⟩ = some (.int .i64 xb.ef) ∧
    Own Actn.enc eA 4 (w.heap.size + 1) wr (.slice pv xl.length cv) xl ∧ (Value.slice pv xl.length cv).ownBlock ≠ some G := by
  have hlen : bs.length = t.bs.length := by rw [← h.core, List.length_map]
  obtain ⟨x, hx⟩ := getElem?_some_of_lt (l := bs) (k := m) (by omega)
  obtain ⟨a, c1, hv, _, hc⟩ := (h.ot.obs.1.sl TB.enc_length).open
  obtain ⟨b, off, rfl, hb, hcell⟩ := hc m x hx
  have hmem := List.mem_of_getElem? hx
  have hown := (h.ot.obs.2.1 x hmem).1
  have hoffx := h.off.2.2.2 x hmem
  obtain ⟨xb, xv, xl⟩ := x
  obtain ⟨pv, cv, hpv, _, _⟩ := (hown.sl Actn.enc_length).openc
  simp only at hpv hown hoffx
  subst hpv
  have hrow : u1.ownBlock = some b := by rw [hv]; rfl
  refine ⟨xb, xl, pv, cv, b, off, c1, by rw [hv, hlen], hb, ⟨by have := (World.ownsRow.lt h.ot.obs.1 b hrow).1; omega⟩, ⟨fun e => h.off.2.1 (by rw [hrow, e])⟩, ?_, ?_, ?_, ?_, ?_, ?_, hown, hoffx⟩
  · simpa using hcell 0 _ rfl
  · exact hcell 1 _ rfl
  · exact hcell 2 _ rfl
  · exact hcell 3 _ rfl
  · exact hcell 4 _ rfl
  · exact hcell 5 _ rfl
end
theorem Rd.put {w0 w : World} {rb G : Nat} {lim : Int} (h : Rd w0 w rb lim) (y0 y1 y2 : Value) (hG : G ≠ rb) (h0 : w0.heap.size ≤ G) : Rd w0 (((w.setCell ⟨G, 0, none⟩ y0).setCell ⟨G, 1, none⟩ y1).setCell ⟨G, 2, none⟩ y2) rb lim :=
  ((h.set 0 y0 hG h0).set 1 y1 hG h0).set 2 y2 hG h0
end Go.Proofs.Ytnknamddonjnjaa
namespace Go.Proofs.Ytnknamddonjnjaa
open Go Go.RowKit Go.Proofs

theorem flatMap_set {α : Type} {enc : α → List Value} {sz : Nat} (he : ∀ x, (enc x).length = sz) {x' : α} {j : Nat} {u : Value} (hj : j < sz) : ∀ {l : List α} {k : Nat} {x : α}, l[k]? = some x → enc x' = (enc x).set j u → (l.flatMap enc).set (k * sz + j) u = (l.set k x').flatMap enc
  | [], k, x, h, _ => by simp at h
  | y :: l, 0, x, h, hu => by
    simp at h; subst h
    rw [List.set_cons_zero, List.flatMap_cons, List.flatMap_cons, hu, List.set_append_left _ _ (by rw [he]; omega)]
    simp
  | y :: l, k + 1, x, h, hu => by
    simp at h
    rw [List.set_cons_succ, List.flatMap_cons, List.flatMap_cons, List.set_append_right _ _ (by rw [he, Nat.succ_mul]; omega), he, show (k + 1) * sz + j - sz = k * sz + j from by rw [Nat.succ_mul]; omega]
    rw [flatMap_set he hj h hu]
theorem Own.setAt {α : Type} {enc : α → List Value} {e sz lo g n c : Nat} (he : ∀ x, (enc x).length = sz) {w : World} {l : List α} (h : Own enc e sz lo w (.slice (some ⟨g, 0, none⟩) n c) l) {k : Nat} {x x' : α} {j : Nat} {u : Value} (hx : l[k]? = some x) (hj : j < sz) (hu : enc x' = (enc x).set j u) :
    Own enc e sz lo (w.setCell ⟨g, k * sz + j, none⟩ u) (.slice (some ⟨g, 0, none⟩) n c) (l.set k x') := by
  have hn : n = l.length := by
    rcases h.2 with ⟨h0, _⟩ | ⟨g', cap', cur, hv, _⟩
    · cases h0
    · cases hv; rfl
  subst hn
  have h2 := (World.ownsRow.stored h (k * sz + j) u).1
  rw [flatMap_set he hj hx hu] at h2
  show World.ownsRow _ _ _ _ _ _ _
  rw [List.length_set]
  exact h2
section
variable {eE eB eA eI lo : Nat} {w w' : World} {v0 v1 v2 : Value} {base : List Ent} {bs : List TB} {pr : List Int}
theorem ob_pair {bs : List TB} : bs.Pairwise (fun x y => Apart x.v y.v) ↔ (bs.map TB.v).Pairwise Apart := by rw [List.pairwise_map]
theorem map_set_v {bs : List TB} {k : Nat} {x x' : TB} (hx : bs[k]? = some x) (hv : x'.v = x.v) : (bs.set k x').map TB.v = bs.map TB.v := by
  rw [List.map_set]
  apply List.ext_getElem?
  intro i
  rw [List.getElem?_set]
  split
  · rename_i e
    subst e
    split
    · rw [List.getElem?_map, hx, hv]; rfl
    · rename_i h1
      have := (List.getElem?_eq_some_iff.1 hx).1
      simp at h1; omega
  · rfl
theorem OTA.setB {g n c : Nat} (h : OTA eE eB eA eI lo w v0 (.slice (some ⟨g, 0, none⟩) n c) v2 base bs pr) {k : Nat} {x x' : TB} {j : Nat} {u : Value} (hx : bs[k]? = some x) (hj : j < 6) (hu : x'.enc = x.enc.set j u) (hv : x'.v = x.v) (hl : x'.l = x.l) :
    OTA eE eB eA eI lo (w.setCell ⟨g, k * 6 + j, none⟩ u) v0 (.slice (some ⟨g, 0, none⟩) n c) v2 base (bs.set k x') pr := by
  have hm := List.mem_of_getElem? hx
  have ne : ∀ v : Value, Apart v (.slice (some ⟨g, 0, none⟩) n c) → v.ownBlock = none ∨ v.ownBlock ≠ some g := fun v a => a
  have hmem : ∀ y ∈ bs.set k x', ∃ z ∈ bs, y.v = z.v ∧ y.l = z.l := fun y hy => by
    rcases List.mem_or_eq_of_mem_set hy with hy | rfl
    · exact ⟨y, hy, rfl, rfl⟩
    · exact ⟨x, hm, hv, hl⟩
  refine ⟨h.obase.setApart _ u (ne _ h.a01), ⟨Own.setAt TB.enc_length h.obs.1 hx hj hu, fun y hy => ?_, ?_⟩, h.opr.setApart _ u (ne _ h.a21), h.a01, h.a21, h.a02, fun y hy => ?_, fun y hy => ?_⟩
  · obtain ⟨z, hz, e1, e2⟩ := hmem y hy
    rw [e1, e2]
    exact ⟨(h.obs.2.1 z hz).1.setApart _ u (ne _ (h.obs.2.1 z hz).2), (h.obs.2.1 z hz).2⟩
  · rw [ob_pair, map_set_v hx hv, ← ob_pair]; exact h.obs.2.2
  · obtain ⟨z, hz, e1, _⟩ := hmem y hy
    rw [e1]; exact h.in0 z hz
  · obtain ⟨z, hz, e1, _⟩ := hmem y hy
    rw [e1]; exact h.in2 z hz
theorem OTA.setI {g n c : Nat} (h : OTA eE eB eA eI lo w v0 v1 (.slice (some ⟨g, 0, none⟩) n c) base bs pr) {k : Nat} {a b : Int} (hx : pr[k]? = some a) :
    OTA eE eB eA eI lo (w.setCell ⟨g, k, none⟩ (.int .i64 b)) v0 v1 (.slice (some ⟨g, 0, none⟩) n c) base bs (pr.set k b) := by
  have ne : ∀ v : Value, Apart v (.slice (some ⟨g, 0, none⟩) n c) → v.ownBlock = none ∨ v.ownBlock ≠ some g := fun v a => a
  have ho := Own.setAt encI_length h.opr (x' := b) (j := 0) (u := .int .i64 b) hx (by decide) rfl
  rw [Nat.mul_one, Nat.add_zero] at ho
  exact ⟨h.obase.setApart _ _ (ne _ h.a02), ⟨h.obs.1.setApart _ _ (ne _ h.a21.symm), fun x hx => ⟨(h.obs.2.1 x hx).1.setApart _ _ (ne _ (h.in2 x hx)), (h.obs.2.1 x hx).2⟩, h.obs.2.2⟩, ho, h.a01, h.a21, h.a02, h.in0, h.in2⟩
theorem OTA.snocE {v0' : Value} {x : Ent} (h : OTA eE eB eA eI lo w v0 v1 v2 base bs pr) (hg : w.grownBy w' v0.ownBlock) (hb : v0'.ownBlock = v0.ownBlock ∨ v0'.ownBlock = some w.heap.size)
    (ho : Own Ent.enc eE 2 lo w' v0' (base ++ [x])) : OTA eE eB eA eI lo w' v0' v1 v2 (base ++ [x]) bs pr := by
  refine ⟨ho, ⟨h.obs.1.keep hg h.a01.symm, fun x hx => ⟨(h.obs.2.1 x hx).1.keep hg (h.in0 x hx), (h.obs.2.1 x hx).2⟩, h.obs.2.2⟩, h.opr.keep hg h.a02.symm, ?_, h.a21, ?_, fun x hx => Apart.grown (h.obs.2.1 x hx).1 (h.in0 x hx) (Nat.le_refl _) hb, h.in2⟩
  · exact (Apart.grown h.obs.1 h.a01.symm (Nat.le_refl _) hb).symm
  · exact (Apart.grown h.opr h.a02.symm (Nat.le_refl _) hb).symm
theorem OTA.rowB {m : Nat} (h : OTA eE eB eA eI lo w v0 v1 v2 base bs pr) (hm : m < bs.length) : ∃ (g off c : Nat) (x : TB), v1 = .slice (some ⟨g, off, none⟩) bs.length c ∧ off = 0 ∧ bs[m]? = some x ∧ LtS g w ∧ lo ≤ g ∧ w.cell? ⟨g, off + m * 6 + 1, none⟩ = some (.int .i64 x.b.ht) ∧ w.frozen? ⟨g, off + m * 6 + 1, none⟩ = false := by
  obtain ⟨x, hx⟩ := getElem?_some_of_lt hm
  obtain ⟨a, c, hv, _, hcc⟩ := (h.obs.1.sl TB.enc_length).open
  rcases h.obs.1.2 with ⟨h0, hn⟩ | ⟨g, cap, cur, hv', hlo, hg, _⟩
  · omega
  · have h1 := h.obs.1
    rw [hv] at hv'
    cases hv'
    obtain ⟨b, off, e, _, hcell⟩ := hcc m x hx
    cases e
    subst hv
    exact ⟨g, 0, c, x, rfl, rfl, hx, ⟨(Array.getElem?_eq_some_iff.1 hg).1⟩, hlo, hcell 1 _ rfl, World.ownsRow.frozenAt h1 _⟩
theorem OTA.rowI {m : Nat} (h : OTA eE eB eA eI lo w v0 v1 v2 base bs pr) (hm : m < pr.length) : ∃ (g off c : Nat) (a : Int), v2 = .slice (some ⟨g, off, none⟩) pr.length c ∧ off = 0 ∧ pr[m]? = some a ∧ LtS g w ∧ lo ≤ g ∧ w.cell? ⟨g, off + m, none⟩ = some (.int .i64 a) ∧ w.frozen? ⟨g, off + m, none⟩ = false := by
  obtain ⟨x, hx⟩ := getElem?_some_of_lt hm
  obtain ⟨a, c, hv, _, hcc⟩ := (h.opr.sl encI_length).open
  rcases h.opr.2 with ⟨h0, hn⟩ | ⟨g, cap, cur, hv', hlo, hg, _⟩
  · omega
  · have h1 := h.opr
    rw [hv] at hv'
    cases hv'
    obtain ⟨b, off, e, _, hcell⟩ := hcc m x hx
    cases e
    subst hv
    have hc0 := hcell 0 _ rfl
    rw [Nat.mul_one, Nat.add_zero] at hc0
    exact ⟨g, 0, c, x, rfl, rfl, hx, ⟨(Array.getElem?_eq_some_iff.1 hg).1⟩, hlo, hc0, World.ownsRow.frozenAt h1 _⟩
end
/-- What LT keeps without 'valid': for the tree that is bent. -/
structure LB (eT eE eB eA eI rb G : Nat) (w wr : World) (u0 u1 u2 : Value) (t : Tree) (bs : List TB) : Prop where
  gb : w.grownBy wr (some rb)
  box : wr.heap[G]? = some (.cells #[u0, u1, u2] eT (0, 0))
  res : wr.heap[w.heap.size]? = some (.cells #[.slice none 0 0, .slice none 0 0, .slice none 0 0] eT (0, 0))
  ot : OTA eE eB eA eI (w.heap.size + 1) wr u0 u1 u2 t.base bs t.pr
  core : bs.map TB.core = t.bs
theorem LT.lb {eT eE eB eA eI rb G : Nat} {w wr : World} {u0 u1 u2 : Value} {t : Tree} {bs : List TB} (h : LT eT eE eB eA eI rb G w wr u0 u1 u2 t bs) : LB eT eE eB eA eI rb G w wr u0 u1 u2 t bs := ⟨h.gb, h.box, h.res, h.ot, h.core⟩
end Go.Proofs.Ytnknamddonjnjaa
namespace Go.Proofs.Ytnknamddonjnjaa
open Go Go.RowKit Go.Proofs

/-- The slot before is checked. -/
def Eng.prevOk (e : Eng) (n : Nat) : Bool := decide (n = 0) || match e.sl[n - 1]? with | some p => p.st == 2 | none => true
/-- A step with an action that is there. -/
def Eng.stepAt (e : Eng) (n : Nat) (t : Slt) (x : Actn) : Eng × Bool :=
  if t.st = 0 then (if t.tr = 1000 then (e, false) else (⟨e.base, e.acts, putV e.vers n (tryE e.base e.vers n x).w, e.sl.set n ⟨1, t.tr + 1, nowF e.base e.vers n x.rk, tryE e.base e.vers n x⟩⟩, true))
  else if t.st = 1 then (if e.prevOk n = true then (if curOk e.base e.vers n t = true then (⟨e.base, e.acts, e.vers, e.sl.set n ⟨2, t.tr, t.f, t.e⟩⟩, true) else (⟨e.base, e.acts, dropV e.vers n, e.sl.set n ⟨0, t.tr, [], ⟨false, [], []⟩⟩⟩, true)) else (e, false))
  else (e, false)
def Eng.step (e : Eng) (n : Int) : Eng × Bool := if 0 ≤ n then (match e.sl[n.toNat]?, e.acts[n.toNat]? with | some t, some x => e.stepAt n.toNat t x | _, _ => (e, false)) else (e, false)
theorem Eng.step_out {e : Eng} {n : Int} (h : n < 0 ∨ (e.sl.length : Int) ≤ n) : e.step n = (e, false) := by
  unfold Eng.step
  by_cases h0 : 0 ≤ n
  · rw [if_pos h0, List.getElem?_eq_none (by omega)]
  · rw [if_neg h0]
theorem Eng.step_in {e : Eng} {n : Nat} {t : Slt} {x : Actn} (ht : e.sl[n]? = some t) (hx : e.acts[n]? = some x) : e.step (n : Int) = e.stepAt n t x := by
  unfold Eng.step
  rw [if_pos (by omega), Int.toNat_natCast, ht, hx]
theorem Eng.Inv.step {e : Eng} (h : e.Inv) (n : Int) : (e.step n).1.Inv := by
  unfold Eng.step
  split
  · split
    · rename_i t x ht hx
      unfold Eng.stepAt
      split
      · split
        · exact h
        · exact h.tried ht hx (by assumption) (by assumption)
      · split
        · split
          · split
            · exact h.checked ht hx (by assumption)
            · exact h.dropped ht hx (by assumption)
          · exact h
        · exact h
    · exact h
  · exact h
theorem Eng.step_len (e : Eng) (n : Int) : (e.step n).1.sl.length = e.sl.length ∧ (e.step n).1.base = e.base ∧ (e.step n).1.acts = e.acts := by
  unfold Eng.step Eng.stepAt
  (repeat' split) <;> simp
/-- What was tried reads the same as long as the versions of earlier actions stay. -/
theorem curOk_tried {s : List Ent} {V : List Ver} (hV : versOk V = true) {n : Nat} {x : Actn} {m : Int} (hw : putOk V n (tryE s V n x).w = true) :
    curOk s (putV V n (tryE s V n x).w) n ⟨1, m, nowF s V n x.rk, tryE s V n x⟩ = true := by
  have hr : ∀ (base key : Int), readV base (putV V n (tryE s V n x).w) key n = readV base V key n := by
    intro base key
    have e1 := readV_early base (putV V n (tryE s V n x).w) key n
    have e2 := readV_early base V key n
    unfold putV at *
    rw [readV_putTo_no (b := (n : Int)) (by_ := (n : Int)) _ _ (fun e he => .inr (by omega))]
    have e3 := readV_early base (dropV V n) key n
    rw [← e3, ← e2]
    congr 1
    unfold earlyV dropV
    rw [List.filter_filter]
    apply List.filter_congr
    intro y _
    by_cases h : y.b < (n : Int)
    · have : y.b ≠ (n : Int) := by omega
      simp [h, this]
    · simp [h]
  unfold curOk
  rw [upTo_iff]
  intro i hi
  simp only [tryE_r] at hi ⊢
  have hik : i < x.rk.length := by simpa [nowL] using hi
  obtain ⟨k, hk⟩ := getElem?_some_of_lt hik
  rw [curAt_eq (x := ⟨k, (readV (atK s k) V k n).1⟩) (q := (readV (atK s k) V k n).2) (by simp [nowL, hk]) (by simp [nowF, hk]), hr]
  simp
end Go.Proofs.Ytnknamddonjnjaa
namespace Go.Proofs.Ytnknamddonjnjaa
open Go Go.RowKit Go.Proofs

/-- A world with a slot written. -/
def set6 (w : World) (g i : Nat) (x : TS) : World := (((((w.setCell ⟨g, i, none⟩ (.int .i64 x.st)).setCell ⟨g, i + 1, none⟩ (.int .i64 x.tr)).setCell ⟨g, i + 2, none⟩ x.vf).setCell ⟨g, i + 3, none⟩ (.bool x.d)).setCell ⟨g, i + 4, none⟩ x.vr).setCell ⟨g, i + 5, none⟩ x.vw
theorem Own.put6 {e lo g n c : Nat} {w : World} {l : List TS} (h : Own TS.enc e 6 lo w (.slice (some ⟨g, 0, none⟩) n c) l) {k : Nat} {x : TS} (hx : l[k]? = some x) (x' : TS) : Own TS.enc e 6 lo (set6 w g (k * 6) x') (.slice (some ⟨g, 0, none⟩) n c) (l.set k x') := by
  have hk := (List.getElem?_eq_some_iff.1 hx).1
  have h1 := Own.setAt (j := 0) (u := .int .i64 x'.st) (x' := { x with st := x'.st }) TS.enc_length h hx (by decide) rfl
  have h2 := Own.setAt (j := 1) (u := .int .i64 x'.tr) (x' := { x with st := x'.st, tr := x'.tr }) TS.enc_length h1 (List.getElem?_set_self hk) (by decide) rfl
  have h3 := Own.setAt (j := 2) (u := x'.vf) (x' := { x with st := x'.st, tr := x'.tr, vf := x'.vf }) TS.enc_length h2 (List.getElem?_set_self (by simpa using hk)) (by decide) rfl
  have h4 := Own.setAt (j := 3) (u := .bool x'.d) (x' := { x with st := x'.st, tr := x'.tr, vf := x'.vf, d := x'.d }) TS.enc_length h3 (List.getElem?_set_self (by simpa using hk)) (by decide) rfl
  have h5 := Own.setAt (j := 4) (u := x'.vr) (x' := { x with st := x'.st, tr := x'.tr, vf := x'.vf, d := x'.d, vr := x'.vr }) TS.enc_length h4 (List.getElem?_set_self (by simpa using hk)) (by decide) rfl
  have h6 := Own.setAt (j := 5) (u := x'.vw) (x' := x') TS.enc_length h5 (List.getElem?_set_self (by simpa using hk)) (by decide) rfl
  simp only [List.set_set] at h6
  exact h6
theorem TS.own.setApart {lo : Nat} {w : World} {x : TS} (h : x.own lo w) {g : Nat} (i : Nat) (u : Value) {n c : Nat} (ha : ∀ v ∈ x.parts, Apart v (.slice (some ⟨g, 0, none⟩) n c)) : x.own lo (w.setCell ⟨g, i, none⟩ u) :=
  ⟨h.1.setApart i u (ha _ (by simp [TS.parts])), h.2.1.setApart i u (ha _ (by simp [TS.parts])), h.2.2.setApart i u (ha _ (by simp [TS.parts]))⟩
theorem TS.own.set6 {lo : Nat} {w : World} {x : TS} (h : x.own lo w) {g : Nat} (i : Nat) (y : TS) {n c : Nat} (ha : ∀ v ∈ x.parts, Apart v (.slice (some ⟨g, 0, none⟩) n c)) : x.own lo (set6 w g i y) :=
  (((((h.setApart _ _ ha).setApart _ _ ha).setApart _ _ ha).setApart _ _ ha).setApart _ _ ha).setApart _ _ ha
theorem split_at {α : Type} {l : List α} {k : Nat} {x : α} (h : l[k]? = some x) : l = l.take k ++ x :: l.drop (k + 1) := by
  obtain ⟨hk, hx⟩ := List.getElem?_eq_some_iff.1 h
  rw [← hx, List.getElem_cons_drop, List.take_append_drop]
theorem pw_set {ts : List TS} {k : Nat} {x x' : TS} (h : (ts.flatMap TS.parts).Pairwise Apart) (hx : ts[k]? = some x) (hxx : x'.parts.Pairwise Apart) (hxt : ∀ y ∈ ts, ∀ u ∈ y.parts, ∀ u' ∈ x'.parts, Apart u u') : ((ts.set k x').flatMap TS.parts).Pairwise Apart := by
  have hk := (List.getElem?_eq_some_iff.1 hx).1
  have hs : ts.set k x' = ts.take k ++ x' :: ts.drop (k + 1) := by rw [List.set_eq_take_append_cons_drop, if_pos hk]
  have h2 := split_at hx
  rw [h2, List.flatMap_append, List.flatMap_cons, List.pairwise_append, List.pairwise_append] at h
  obtain ⟨hA, ⟨_, hB, _⟩, hAB⟩ := h
  rw [hs, List.flatMap_append, List.flatMap_cons, List.pairwise_append, List.pairwise_append]
  refine ⟨hA, ⟨hxx, hB, fun u hu u' hu' => ?_⟩, fun u hu u' hu' => ?_⟩
  · obtain ⟨y, hy, hyu⟩ := List.mem_flatMap.1 hu'
    exact (hxt y (List.mem_of_mem_drop hy) u' hyu u hu).symm
  · rcases List.mem_append.1 hu' with hu' | hu'
    · obtain ⟨y, hy, hyu⟩ := List.mem_flatMap.1 hu
      exact hxt y (List.mem_of_mem_take hy) u hyu u' hu'
    · exact hAB u hu u' (List.mem_append.2 (.inr hu'))
/-- A slot put in place. -/
theorem OSA.set {lo g n c : Nat} {w : World} {ts : List TS} (h : OSA lo w (.slice (some ⟨g, 0, none⟩) n c) ts) {k : Nat} {x x' : TS} (hx : ts[k]? = some x) (hx' : x'.own lo w) (hxv : ∀ u ∈ x'.parts, Apart u (.slice (some ⟨g, 0, none⟩) n c)) (hxx : x'.parts.Pairwise Apart) (hxt : ∀ y ∈ ts, ∀ u ∈ y.parts, ∀ u' ∈ x'.parts, Apart u u') :
    OSA lo (set6 w g (k * 6) x') (.slice (some ⟨g, 0, none⟩) n c) (ts.set k x') := by
  refine ⟨h.row.put6 hx x', fun y hy => ?_, fun y hy => ?_, pw_set h.pw hx hxx hxt⟩
  · rcases List.mem_or_eq_of_mem_set hy with hy | rfl
    · exact (h.deep y hy).set6 _ _ (h.out y hy)
    · exact hx'.set6 _ _ hxv
  · rcases List.mem_or_eq_of_mem_set hy with hy | rfl
    · exact h.out y hy
    · exact hxv
theorem parts_set {ts : List TS} {k : Nat} {x x' : TS} (hx : ts[k]? = some x) (hp : x'.parts = x.parts) : (ts.set k x').flatMap TS.parts = ts.flatMap TS.parts := by
  have hk := (List.getElem?_eq_some_iff.1 hx).1
  rw [List.set_eq_take_append_cons_drop, if_pos hk]
  conv => rhs; rw [split_at hx]
  rw [List.flatMap_append, List.flatMap_append, List.flatMap_cons, List.flatMap_cons, hp]
/-- A slot's stage put in place. -/
theorem OSA.setSt {lo g n c : Nat} {w : World} {ts : List TS} (h : OSA lo w (.slice (some ⟨g, 0, none⟩) n c) ts) {k : Nat} {x : TS} (hx : ts[k]? = some x) (a : Int) :
    OSA lo (w.setCell ⟨g, k * 6, none⟩ (.int .i64 a)) (.slice (some ⟨g, 0, none⟩) n c) (ts.set k { x with st := a }) := by
  refine ⟨Own.setAt (j := 0) (u := .int .i64 a) (x' := { x with st := a }) TS.enc_length h.row hx (by decide) rfl, fun y hy => ?_, fun y hy => ?_, by rw [parts_set hx (by rfl)]; exact h.pw⟩
  · rcases List.mem_or_eq_of_mem_set hy with hy | rfl
    · exact (h.deep y hy).setApart _ _ (h.out y hy)
    · exact TS.own.setApart (x := x) (h.deep x (List.mem_of_getElem? hx)) _ _ (h.out x (List.mem_of_getElem? hx))
  · rcases List.mem_or_eq_of_mem_set hy with hy | rfl
    · exact h.out y hy
    · exact h.out x (List.mem_of_getElem? hx)
/-- Slots lie at the start of a block of their own. -/
theorem OSA.at {lo : Nat} {w : World} {v : Value} {ts : List TS} (h : OSA lo w v ts) (hne : ts ≠ []) : ∃ g c, v = .slice (some ⟨g, 0, none⟩) ts.length c ∧ lo ≤ g := by
  rcases h.row.2 with ⟨_, h2⟩ | ⟨g, cap, cur, hv, hlo, hg, r⟩
  · exact absurd h2 (by simpa using hne)
  · exact ⟨g, cap, hv, hlo⟩
theorem Own.cells6 {e lo g n c : Nat} {w : World} {l : List TS} (h : Own TS.enc e 6 lo w (.slice (some ⟨g, 0, none⟩) n c) l) {k : Nat} {x : TS} (hx : l[k]? = some x) : LtS g w ∧ w.cell? ⟨g, k * 6, none⟩ = some (.int .i64 x.st) ∧ w.cell? ⟨g, k * 6 + 1, none⟩ = some (.int .i64 x.tr) ∧ w.cell? ⟨g, k * 6 + 2, none⟩ = some x.vf ∧ w.cell? ⟨g, k * 6 + 3, none⟩ = some (.bool x.d) ∧ w.cell? ⟨g, k * 6 + 4, none⟩ = some x.vr ∧ w.cell? ⟨g, k * 6 + 5, none⟩ = some x.vw ∧
    w.frozen? ⟨g, k * 6, none⟩ = false ∧ w.frozen? ⟨g, k * 6 + 1, none⟩ = false ∧ w.frozen? ⟨g, k * 6 + 2, none⟩ = false ∧ w.frozen? ⟨g, k * 6 + 3, none⟩ = false ∧ w.frozen? ⟨g, k * 6 + 4, none⟩ = false ∧ w.frozen? ⟨g, k * 6 + 5, none⟩ = false := by
  obtain ⟨_, _, e9, _, hc⟩ := (h.sl TS.enc_length).open
  cases e9
  obtain ⟨b, off, e8, hb, hcc⟩ := hc k x hx
  simp only [Option.some.injEq, Addr.mk.injEq, and_true] at e8
  obtain ⟨rfl, rfl⟩ := e8
  have a0 := hcc 0 _ rfl; have a1 := hcc 1 _ rfl; have a2 := hcc 2 _ rfl; have a3 := hcc 3 _ rfl; have a4 := hcc 4 _ rfl; have a5 := hcc 5 _ rfl
  simp only [Nat.zero_add, Nat.add_zero] at a0 a1 a2 a3 a4 a5
  exact ⟨hb, a0, a1, a2, a3, a4, a5, World.ownsRow.frozenAt h _, World.ownsRow.frozenAt h _, World.ownsRow.frozenAt h _, World.ownsRow.frozenAt h _, World.ownsRow.frozenAt h _, World.ownsRow.frozenAt h _⟩
/-- An engine's slot put in place. -/
theorem OEX.setSt {lo g n c : Nat} {w : World} {v0 v1 v2 : Value} {base : List Ent} {acts : List Actn} {vers : List Ver} {ts : List TS} (h : OEX lo w v0 v1 v2 (.slice (some ⟨g, 0, none⟩) n c) base acts vers ts) {k : Nat} {x : TS} (hx : ts[k]? = some x) (a : Int) :
    OEX lo (w.setCell ⟨g, k * 6, none⟩ (.int .i64 a)) v0 v1 v2 (.slice (some ⟨g, 0, none⟩) n c) base acts vers (ts.set k { x with st := a }) := by
  refine ⟨⟨h.g.base.setApart _ _ h.a0, h.g.acts.setApart _ _ h.a1, h.g.vers.setApart _ _ h.a2, h.g.sl.setSt hx a⟩, h.a0, h.a1, h.a2, fun y hy => ?_⟩
  rcases List.mem_or_eq_of_mem_set hy with hy | rfl
  · exact h.i0 y hy
  · exact h.i0 x (List.mem_of_getElem? hx)
theorem Own.set6 {α : Type} {enc : α → List Value} {e sz lo g i : Nat} {w : World} {v : Value} {l : List α} (h : Own enc e sz lo w v l) (y : TS) {n c : Nat} (ha : Apart v (.slice (some ⟨g, 0, none⟩) n c)) : Own enc e sz lo (set6 w g i y) v l :=
  (((((h.setApart _ _ ha).setApart _ _ ha).setApart _ _ ha).setApart _ _ ha).setApart _ _ ha).setApart _ _ ha
theorem OEX.set {lo g n c : Nat} {w : World} {v0 v1 v2 : Value} {base : List Ent} {acts : List Actn} {vers : List Ver} {ts : List TS} (h : OEX lo w v0 v1 v2 (.slice (some ⟨g, 0, none⟩) n c) base acts vers ts) {k : Nat} {x x' : TS} (hx : ts[k]? = some x) (hx' : x'.own lo w) (hxv : ∀ u ∈ x'.parts, Apart u (.slice (some ⟨g, 0, none⟩) n c)) (hxx : x'.parts.Pairwise Apart) (hxt : ∀ y ∈ ts, ∀ u ∈ y.parts, ∀ u' ∈ x'.parts, Apart u u') (h012 : ∀ u ∈ x'.parts, Apart u v0 ∧ Apart u v1 ∧ Apart u v2) :
    OEX lo (set6 w g (k * 6) x') v0 v1 v2 (.slice (some ⟨g, 0, none⟩) n c) base acts vers (ts.set k x') := by
  refine ⟨⟨h.g.base.set6 _ h.a0, h.g.acts.set6 _ h.a1, h.g.vers.set6 _ h.a2, h.g.sl.set hx hx' hxv hxx hxt⟩, h.a0, h.a1, h.a2, fun y hy => ?_⟩
  rcases List.mem_or_eq_of_mem_set hy with hy | rfl
  · exact h.i0 y hy
  · exact h012
/-- New slices lie apart from older ones. -/
theorem TS.own.new {α : Type} {enc : α → List Value} {e sz lo lo' : Nat} {w w' : World} {v : Value} {l : List α} {x : TS} (h : Own enc e sz lo w v l) (hx : x.own lo' w') (hlt : w.heap.size ≤ lo') : ∀ u ∈ x.parts, Apart u v := by
  intro u hu
  simp only [TS.parts, List.mem_cons, List.not_mem_nil, or_false] at hu
  rcases hu with rfl | rfl | rfl
  · exact (Apart.of_lt h hx.1 hlt).symm
  · exact (Apart.of_lt h hx.2.1 hlt).symm
  · exact (Apart.of_lt h hx.2.2 hlt).symm
theorem TS.own.old {α : Type} {enc : α → List Value} {e sz lo lo' : Nat} {w w' : World} {v : Value} {l : List α} {x : TS} (hx : x.own lo w) (h : Own enc e sz lo' w' v l) (hlt : w.heap.size ≤ lo') : ∀ u ∈ x.parts, Apart u v := by
  intro u hu
  simp only [TS.parts, List.mem_cons, List.not_mem_nil, or_false] at hu
  rcases hu with rfl | rfl | rfl
  · exact Apart.of_lt hx.1 h hlt
  · exact Apart.of_lt hx.2.1 h hlt
  · exact Apart.of_lt hx.2.2 h hlt
theorem OEX.setNew {lo lo' g n c : Nat} {w w0 : World} {v0 v1 v2 : Value} {base : List Ent} {acts : List Actn} {vers : List Ver} {ts : List TS} (h : OEX lo w0 v0 v1 v2 (.slice (some ⟨g, 0, none⟩) n c) base acts vers ts) (hE : Ext w0 w) {k : Nat} {x x' : TS} (hx : ts[k]? = some x) (hx' : x'.own lo' w) (hl : w0.heap.size ≤ lo') (hlo : lo ≤ lo') (hxx : x'.parts.Pairwise Apart) :
    OEX lo (set6 w g (k * 6) x') v0 v1 v2 (.slice (some ⟨g, 0, none⟩) n c) base acts vers (ts.set k x') := by
  refine (h.up hE).set hx (hx'.lo hlo) (TS.own.new h.g.sl.row hx' hl) hxx (fun y hy u hu u' hu' => ?_) (fun u hu => ⟨TS.own.new h.g.base hx' hl u hu, TS.own.new h.g.acts hx' hl u hu, TS.own.new h.g.vers hx' hl u hu⟩)
  obtain ⟨i0, i1, i2⟩ := h.g.sl.deep y hy
  simp only [TS.parts, List.mem_cons, List.not_mem_nil, or_false] at hu
  rcases hu with rfl | rfl | rfl
  · exact (TS.own.new i0 hx' hl u' hu').symm
  · exact (TS.own.new i1 hx' hl u' hu').symm
  · exact (TS.own.new i2 hx' hl u' hu').symm
/-- Other versions. -/
theorem OEX.vers {lo lo' : Nat} {w0 w : World} {v0 v1 v2 v3 v2' : Value} {base : List Ent} {acts : List Actn} {vers vers' : List Ver} {ts : List TS} (h : OEX lo w0 v0 v1 v2 v3 base acts vers ts) (hE : Ext w0 w) (hv : Own Ver.enc 32 3 lo' w v2' vers') (hl : w0.heap.size ≤ lo') (hlo : lo ≤ lo') : OEX lo w v0 v1 v2' v3 base acts vers' ts :=
  ⟨⟨h.g.base.up hE, h.g.acts.up hE, hv.lo hlo, h.g.sl.up hE⟩, h.a0, h.a1, (Apart.of_lt h.g.sl.row hv hl).symm, fun x hx u hu => ⟨(h.i0 x hx u hu).1, (h.i0 x hx u hu).2.1, TS.own.old (h.g.sl.deep x hx) hv hl u hu⟩⟩
/-- A block that is no part's. -/
theorem Own.off {α : Type} {enc : α → List Value} {e sz lo X : Nat} {w : World} {v : Value} {l : List α} (h : Own enc e sz lo w v l) (hX : X < lo ∨ w.heap.size ≤ X) : v.ownBlock ≠ some X := by
  intro e9
  have := World.ownsRow.lt h X e9
  omega
theorem TS.own.off {lo X : Nat} {w : World} {x : TS} (h : x.own lo w) (hX : X < lo ∨ w.heap.size ≤ X) : ∀ u ∈ x.parts, u.ownBlock ≠ some X := by
  intro u hu
  simp only [TS.parts, List.mem_cons, List.not_mem_nil, or_false] at hu
  rcases hu with rfl | rfl | rfl
  · exact h.1.off hX
  · exact h.2.1.off hX
  · exact h.2.2.off hX
theorem OEX.setOff {lo X : Nat} {w : World} {v0 v1 v2 v3 : Value} {base : List Ent} {acts : List Actn} {vers : List Ver} {ts : List TS} (h : OEX lo w v0 v1 v2 v3 base acts vers ts) (i : Nat) (u : Value) (h0 : v0.ownBlock ≠ some X) (h1 : v1.ownBlock ≠ some X) (h2 : v2.ownBlock ≠ some X) (h3 : v3.ownBlock ≠ some X) (hp : ∀ x ∈ ts, ∀ u ∈ x.parts, u.ownBlock ≠ some X) : OEX lo (w.setCell ⟨X, i, none⟩ u) v0 v1 v2 v3 base acts vers ts :=
  ⟨⟨h.g.base.setApart _ _ (.inr h0), h.g.acts.setApart _ _ (.inr h1), h.g.vers.setApart _ _ (.inr h2), ⟨h.g.sl.row.setApart _ _ (.inr h3), fun x hx => ⟨(h.g.sl.deep x hx).1.setApart _ _ (.inr (hp x hx _ (by simp [TS.parts]))), (h.g.sl.deep x hx).2.1.setApart _ _ (.inr (hp x hx _ (by simp [TS.parts]))), (h.g.sl.deep x hx).2.2.setApart _ _ (.inr (hp x hx _ (by simp [TS.parts])))⟩, h.g.sl.out, h.g.sl.pw⟩⟩, h.a0, h.a1, h.a2, h.i0⟩
theorem set6_sz (w : World) (g i : Nat) (x : TS) : (set6 w g i x).heap.size = w.heap.size := by simp [set6, setCell_sz]
/-- A slot put in place, and other versions, in the engine's block X. -/
theorem OEX.slotVers {lo lo' lo2 g n c X : Nat} {w0 w w2 : World} {v0 v1 v2 v2' u : Value} {base : List Ent} {acts : List Actn} {vers vers' : List Ver} {ts : List TS} (h : OEX lo w0 v0 v1 v2 (.slice (some ⟨g, 0, none⟩) n c) base acts vers ts) (hE : Ext w0 w) {k : Nat} {x x' : TS} (hx : ts[k]? = some x) (hx' : x'.own lo' w) (hX : w0.heap.size ≤ X) (hX' : X < lo') (hlo : lo ≤ w0.heap.size) (hxx : x'.parts.Pairwise Apart)
    (hE2 : Ext (set6 w g (k * 6) x') w2) (hv : Own Ver.enc 32 3 lo2 w2 v2' vers') (hl2 : w.heap.size ≤ lo2) (hlw : lo' ≤ w.heap.size) : OEX lo (w2.setCell ⟨X, 2, none⟩ u) v0 v1 v2' (.slice (some ⟨g, 0, none⟩) n c) base acts vers' (ts.set k x') := by
  have h1 := h.setNew hE hx hx' (by omega) (by omega) hxx
  have h2 := h1.vers hE2 hv (by rw [set6_sz]; exact hl2) (by omega)
  refine h2.setOff 2 u (h.g.base.off (.inr hX)) (h.g.acts.off (.inr hX)) (hv.off (.inl (by omega))) (h.g.sl.row.off (.inr hX)) (fun y hy => ?_)
  rcases List.mem_or_eq_of_mem_set hy with hy | rfl
  · exact (h.g.sl.deep y hy).off (.inr hX)
  · exact hx'.off (.inl hX')
theorem Eng.Inv.parts {e : Eng} (h : e.Inv) : e.base.length ≤ 1000 ∧ e.acts.length ≤ 1000 ∧ e.vers.length ≤ 1000 ∧ e.sl.length ≤ 1000 ∧ ∀ x ∈ e.sl, x.f.length ≤ 1000 ∧ x.e.r.length ≤ 1000 ∧ x.e.w.length ≤ 1000 := by
  have h0 := entsOk_len h.base
  have h1 := h.len10
  have h2 := h.vok.2
  have h3 := h.len
  refine ⟨by omega, by omega, by omega, by omega, fun t ht => ?_⟩
  obtain ⟨k, hk⟩ := List.getElem?_of_mem ht
  have hkl := (List.getElem?_eq_some_iff.1 hk).1
  obtain ⟨x, hx⟩ := getElem?_some_of_lt (l := e.acts) (k := k) (by omega)
  have hs := h.slot hk hx
  have hw := entsOk_len (h.w t.e (List.mem_map.2 ⟨t, ht, rfl⟩))
  have hr := Actn.rk_le x
  unfold sltOk at hs
  split at hs
  · rw [sltNew_six] at hs
    simp only [Bool.and_eq_true, decide_eq_true_eq] at hs
    omega
  · simp only [sltTry, Bool.and_eq_true, decide_eq_true_eq] at hs
    omega
end Go.Proofs.Ytnknamddonjnjaa
