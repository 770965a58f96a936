/- Plain ground: trees of the call's own in which one number is turned, or that have an entry more. -/
import Derived.Test.YtphkimbhjfjjkaaGBSTop09
set_option linter.unusedSimpArgs false
set_option linter.unusedVariables false
namespace Go.Proofs.Ytphkimbhjfjjkaa
open Go Go.RowKit Go.Proofs

theorem flatMap_set {α : Type} {enc : α → List Value} {sz : Nat} (he : ∀ x, (enc x).length = sz) {x' : α} {j : Nat} {u : Value} (hj : j < sz) : ∀ {l : List α} {k : Nat} {x : α}, l[k]? = some x → enc x' = (enc x).set j u → (l.flatMap enc).set (k * sz + j) u = (l.set k x').flatMap enc
  | [], k, x, h, _ => by simp at h
  | y :: l, 0, x, h, hu => by
    simp at h; subst h
    rw [List.set_cons_zero, List.flatMap_cons, List.flatMap_cons, hu, List.set_append_left _ _ (by rw [he]; omega)]
    simp
  | y :: l, k + 1, x, h, hu => by
    simp at h
    rw [List.set_cons_succ, List.flatMap_cons, List.flatMap_cons, List.set_append_right _ _ (by rw [he, Nat.succ_mul]; omega), he, show (k + 1) * sz + j - sz = k * sz + j from by rw [Nat.succ_mul]; omega]
    rw [flatMap_set he hj h hu]
theorem Own.setAt {α : Type} {enc : α → List Value} {e sz lo g n c : Nat} (he : ∀ x, (enc x).length = sz) {w : World} {l : List α} (h : Own enc e sz lo w (.slice (some ⟨g, 0, none⟩) n c) l) {k : Nat} {x x' : α} {j : Nat} {u : Value} (hx : l[k]? = some x) (hj : j < sz) (hu : enc x' = (enc x).set j u) :
    Own enc e sz lo (w.setCell ⟨g, k * sz + j, none⟩ u) (.slice (some ⟨g, 0, none⟩) n c) (l.set k x') := by
  have hn : n = l.length := by
    rcases h.2 with ⟨h0, _⟩ | ⟨g', cap', cur, hv, _⟩
    · cases h0
    · cases hv; rfl
  subst hn
  have h2 := (World.ownsRow.stored h (k * sz + j) u).1
  rw [flatMap_set he hj hx hu] at h2
  show World.ownsRow _ _ _ _ _ _ _
  rw [List.length_set]
  exact h2
section
variable {eE eB eA eI lo : Nat} {w w' : World} {v0 v1 v2 : Value} {base : List Ent} {bs : List TB} {pr : List Int}
theorem ob_pair {bs : List TB} : bs.Pairwise (fun x y => Apart x.v y.v) ↔ (bs.map TB.v).Pairwise Apart := by rw [List.pairwise_map]
theorem map_set_v {bs : List TB} {k : Nat} {x x' : TB} (hx : bs[k]? = some x) (hv : x'.v = x.v) : (bs.set k x').map TB.v = bs.map TB.v := by
  rw [List.map_set]
  apply List.ext_getElem?
  intro i
  rw [List.getElem?_set]
  split
  · rename_i e
    subst e
    split
    · rw [List.getElem?_map, hx, hv]; rfl
    · rename_i h1
      have := (List.getElem?_eq_some_iff.1 hx).1
      simp at h1; omega
  · rfl
theorem OTA.setB {g n c : Nat} (h : OTA eE eB eA eI lo w v0 (.slice (some ⟨g, 0, none⟩) n c) v2 base bs pr) {k : Nat} {x x' : TB} {j : Nat} {u : Value} (hx : bs[k]? = some x) (hj : j < 6) (hu : x'.enc = x.enc.set j u) (hv : x'.v = x.v) (hl : x'.l = x.l) :
    OTA eE eB eA eI lo (w.setCell ⟨g, k * 6 + j, none⟩ u) v0 (.slice (some ⟨g, 0, none⟩) n c) v2 base (bs.set k x') pr := by
  have hm := List.mem_of_getElem? hx
  have ne : ∀ v : Value, Apart v (.slice (some ⟨g, 0, none⟩) n c) → v.ownBlock = none ∨ v.ownBlock ≠ some g := fun v a => a
  have hmem : ∀ y ∈ bs.set k x', ∃ z ∈ bs, y.v = z.v ∧ y.l = z.l := fun y hy => by
    rcases List.mem_or_eq_of_mem_set hy with hy | rfl
    · exact ⟨y, hy, rfl, rfl⟩
    · exact ⟨x, hm, hv, hl⟩
  refine ⟨h.obase.setApart _ u (ne _ h.a01), ⟨Own.setAt TB.enc_length h.obs.1 hx hj hu, fun y hy => ?_, ?_⟩, h.opr.setApart _ u (ne _ h.a21), h.a01, h.a21, h.a02, fun y hy => ?_, fun y hy => ?_⟩
  · obtain ⟨z, hz, e1, e2⟩ := hmem y hy
    rw [e1, e2]
    exact ⟨(h.obs.2.1 z hz).1.setApart _ u (ne _ (h.obs.2.1 z hz).2), (h.obs.2.1 z hz).2⟩
  · rw [ob_pair, map_set_v hx hv, ← ob_pair]; exact h.obs.2.2
  · obtain ⟨z, hz, e1, _⟩ := hmem y hy
    rw [e1]; exact h.in0 z hz
  · obtain ⟨z, hz, e1, _⟩ := hmem y hy
    rw [e1]; exact h.in2 z hz
theorem OTA.setI {g n c : Nat} (h : OTA eE eB eA eI lo w v0 v1 (.slice (some ⟨g, 0, none⟩) n c) base bs pr) {k : Nat} {a b : Int} (hx : pr[k]? = some a) :
    OTA eE eB eA eI lo (w.setCell ⟨g, k, none⟩ (.int .i64 b)) v0 v1 (.slice (some ⟨g, 0, none⟩) n c) base bs (pr.set k b) := by
  have ne : ∀ v : Value, Apart v (.slice (some ⟨g, 0, none⟩) n c) → v.ownBlock = none ∨ v.ownBlock ≠ some g := fun v a => a
  have ho := Own.setAt encI_length h.opr (x' := b) (j := 0) (u := .int .i64 b) hx (by decide) rfl
  rw [Nat.mul_one, Nat.add_zero] at ho
  exact ⟨h.obase.setApart _ _ (ne _ h.a02), ⟨h.obs.1.setApart _ _ (ne _ h.a21.symm), fun x hx => ⟨(h.obs.2.1 x hx).1.setApart _ _ (ne _ (h.in2 x hx)), (h.obs.2.1 x hx).2⟩, h.obs.2.2⟩, ho, h.a01, h.a21, h.a02, h.in0, h.in2⟩
theorem OTA.snocE {v0' : Value} {x : Ent} (h : OTA eE eB eA eI lo w v0 v1 v2 base bs pr) (hg : w.grownBy w' v0.ownBlock) (hb : v0'.ownBlock = v0.ownBlock ∨ v0'.ownBlock = some w.heap.size)
    (ho : Own Ent.enc eE 2 lo w' v0' (base ++ [x])) : OTA eE eB eA eI lo w' v0' v1 v2 (base ++ [x]) bs pr := by
  refine ⟨ho, ⟨h.obs.1.keep hg h.a01.symm, fun x hx => ⟨(h.obs.2.1 x hx).1.keep hg (h.in0 x hx), (h.obs.2.1 x hx).2⟩, h.obs.2.2⟩, h.opr.keep hg h.a02.symm, ?_, h.a21, ?_, fun x hx => Apart.grown (h.obs.2.1 x hx).1 (h.in0 x hx) (Nat.le_refl _) hb, h.in2⟩
  · exact (Apart.grown h.obs.1 h.a01.symm (Nat.le_refl _) hb).symm
  · exact (Apart.grown h.opr h.a02.symm (Nat.le_refl _) hb).symm
theorem OTA.rowB {m : Nat} (h : OTA eE eB eA eI lo w v0 v1 v2 base bs pr) (hm : m < bs.length) : ∃ (g off c : Nat) (x : TB), v1 = .slice (some ⟨g, off, none⟩) bs.length c ∧ off = 0 ∧ bs[m]? = some x ∧ LtS g w ∧ lo ≤ g ∧ w.cell? ⟨g, off + m * 6 + 1, none⟩ = some (.int .i64 x.b.ht) ∧ w.frozen? ⟨g, off + m * 6 + 1, none⟩ = false := by
  obtain ⟨x, hx⟩ := getElem?_some_of_lt hm
  obtain ⟨a, c, hv, _, hcc⟩ := (h.obs.1.sl TB.enc_length).open
  rcases h.obs.1.2 with ⟨h0, hn⟩ | ⟨g, cap, cur, hv', hlo, hg, _⟩
  · omega
  · have h1 := h.obs.1
    rw [hv] at hv'
    cases hv'
    obtain ⟨b, off, e, _, hcell⟩ := hcc m x hx
    cases e
    subst hv
    exact ⟨g, 0, c, x, rfl, rfl, hx, ⟨(Array.getElem?_eq_some_iff.1 hg).1⟩, hlo, hcell 1 _ rfl, World.ownsRow.frozenAt h1 _⟩
theorem OTA.rowI {m : Nat} (h : OTA eE eB eA eI lo w v0 v1 v2 base bs pr) (hm : m < pr.length) : ∃ (g off c : Nat) (a : Int), v2 = .slice (some ⟨g, off, none⟩) pr.length c ∧ off = 0 ∧ pr[m]? = some a ∧ LtS g w ∧ lo ≤ g ∧ w.cell? ⟨g, off + m, none⟩ = some (.int .i64 a) ∧ w.frozen? ⟨g, off + m, none⟩ = false := by
  obtain ⟨x, hx⟩ := getElem?_some_of_lt hm
  obtain ⟨a, c, hv, _, hcc⟩ := (h.opr.sl encI_length).open
  rcases h.opr.2 with ⟨h0, hn⟩ | ⟨g, cap, cur, hv', hlo, hg, _⟩
  · omega
  · have h1 := h.opr
    rw [hv] at hv'
    cases hv'
    obtain ⟨b, off, e, _, hcell⟩ := hcc m x hx
    cases e
    subst hv
    have hc0 := hcell 0 _ rfl
    rw [Nat.mul_one, Nat.add_zero] at hc0
    exact ⟨g, 0, c, x, rfl, rfl, hx, ⟨(Array.getElem?_eq_some_iff.1 hg).1⟩, hlo, hc0, World.ownsRow.frozenAt h1 _⟩
end
/-- What LT keeps without 'valid': for the tree that is bent. -/
structure LB (eT eE eB eA eI rb G : Nat) (w wr : World) (u0 u1 u2 : Value) (t : Tree) (bs : List TB) : Prop where
  gb : w.grownBy wr (some rb)
  box : wr.heap[G]? = some (.cells #[u0, u1, u2] eT (0, 0))
  res : wr.heap[w.heap.size]? = some (.cells #[.slice none 0 0, .slice none 0 0, .slice none 0 0] eT (0, 0))
  ot : OTA eE eB eA eI (w.heap.size + 1) wr u0 u1 u2 t.base bs t.pr
  core : bs.map TB.core = t.bs
theorem LT.lb {eT eE eB eA eI rb G : Nat} {w wr : World} {u0 u1 u2 : Value} {t : Tree} {bs : List TB} (h : LT eT eE eB eA eI rb G w wr u0 u1 u2 t bs) : LB eT eE eB eA eI rb G w wr u0 u1 u2 t bs := ⟨h.gb, h.box, h.res, h.ot, h.core⟩
end Go.Proofs.Ytphkimbhjfjjkaa
