/- Walks: runs in an order, both sides. Plain ground: trees of the call's own in which one number is turned, or that have an entry more. Walks: comparisons and marks of slices of effects (the laws' helpers). -/
import Derived.Test.YtknohbdhbjppjaaGBRTop28
import Derived.Test.YtknohbdhbjppjaaGBRTop18
import Derived.Test.YtknohbdhbjppjaaGBRTop10
import Derived.Test.YtknohbdhbjppjaaGBRTop13
import Derived.Test.YtknohbdhbjppjaaGBRTop30
import Derived.Test.YtknohbdhbjppjaaGBRTop02
set_option linter.unusedSimpArgs false
set_option linter.unusedVariables false
namespace Go.Proofs.Ytknohbdhbjppjaa
open Go Go.RowKit Go.Proofs

def nthA (l : List Actn) (n : Int) : Actn := l.getD n.toNat ⟨1, 0, 0, 0⟩
def ordL (l : List Actn) (o : List Int) : List Actn := o.map (nthA l)
/-- Elements put at their places, one after the other. -/
def effZ {α : Type} (acc : List α) (Z : List (Int × α)) : List α := Z.foldl (fun a p => a.set p.1.toNat p.2) acc
theorem effZ_append {α : Type} (acc : List α) (Z : List (Int × α)) (p : Int × α) : effZ acc (Z ++ [p]) = (effZ acc Z).set p.1.toNat p.2 := by simp [effZ]
theorem effZ_len {α : Type} : ∀ (Z : List (Int × α)) (acc : List α), (effZ acc Z).length = acc.length
  | [], _ => rfl
  | p :: Z, acc => by
    show (effZ (acc.set p.1.toNat p.2) Z).length = _
    rw [effZ_len Z, List.length_set]
theorem effZ_map {α β : Type} (f : α → β) : ∀ (Z : List (Int × α)) (acc : List α), (effZ acc Z).map f = effZ (acc.map f) (Z.map fun p => (p.1, f p.2))
  | [], _ => rfl
  | p :: Z, acc => by
    show (effZ (acc.set p.1.toNat p.2) Z).map f = effZ ((acc.map f).set p.1.toNat (f p.2)) _
    rw [effZ_map f Z, List.map_set]
def zeroTE : TE := ⟨false, .slice none 0 0, .slice none 0 0, [], []⟩
def zeroEff : Eff := ⟨false, [], []⟩
def roOk (s : List Ent) (l : List Actn) (o : List Int) : Bool := entsOk 1 s && ordOk l o
def roP (s : List Ent) (l : List Actn) (o : List Int) : List Int × List Eff := runAll (valsOf s) (ordL l o)
def roE (s : List Ent) (l : List Actn) (o : List Int) : List Eff := effZ (List.replicate l.length zeroEff) (o.zip (roP s l o).2)
def roS (s : List Ent) (l : List Actn) (o : List Int) : List Ent := if roOk s l o = true then storeOf (roP s l o).1 else []
def roEs (s : List Ent) (l : List Actn) (o : List Int) : List Eff := if roOk s l o = true then roE s l o else []
theorem ordOk_parts {l : List Actn} {o : List Int} (h : ordOk l o = true) : actsOk l = true ∧ o.length = l.length ∧ ∀ (k : Nat) n, o[k]? = some n → 0 ≤ n ∧ n < l.length := by
  simp only [ordOk, Bool.and_eq_true, decide_eq_true_eq] at h
  exact ⟨h.1, h.2.1, fun k n hn => ordAt_in h.2.2 (List.getElem?_eq_some_iff.1 hn).1 hn⟩
theorem ordL_get {l : List Actn} {o : List Int} {k : Nat} {n : Int} {x : Actn} (hn : o[k]? = some n) (hx : l[n.toNat]? = some x) : (ordL l o)[k]? = some x := by
  simp [ordL, hn, nthA, List.getD, hx]
theorem ordL_ok {l : List Actn} {o : List Int} (h : ordOk l o = true) : ∀ x ∈ ordL l o, x.ok = true := by
  intro x hx
  obtain ⟨n, hn, rfl⟩ := List.mem_map.1 hx
  obtain ⟨k, hk⟩ := List.getElem?_of_mem hn
  obtain ⟨h1, _, h3⟩ := ordOk_parts h
  obtain ⟨a, b⟩ := h3 k n hk
  obtain ⟨y, hy⟩ := getElem?_some_of_lt (l := l) (k := n.toNat) (by omega)
  have : nthA l n = y := by simp [nthA, List.getD, hy]
  rw [this]; exact actsOk_at h1 hy
theorem ordL_len (l : List Actn) (o : List Int) : (ordL l o).length = o.length := by simp [ordL]
theorem flatMap_setAll {α : Type} {enc : α → List Value} {sz : Nat} (he : ∀ x, (enc x).length = sz) {l : List α} {k : Nat} (hk : k < l.length) (x : α) : (l.set k x).flatMap enc = setAll (l.flatMap enc) (k * sz) (enc x) := by
  have hl := flatMap_length he l
  have hfit : k * sz + sz ≤ l.length * sz := by rw [← Nat.succ_mul]; exact Nat.mul_le_mul_right _ hk
  apply List.ext_getElem?
  intro j
  rw [setAll_get _ _ _ _ (by rw [he, hl]; exact hfit)]
  by_cases hj : j < l.length * sz
  · have s0 : 0 < sz := by
      rcases Nat.eq_zero_or_pos sz with h | h
      · subst h; simp at hj
      · exact h
    have hq : j / sz < l.length := Nat.div_lt_of_lt_mul (by rwa [Nat.mul_comm])
    have hm : j % sz < sz := Nat.mod_lt _ s0
    have hd := Nat.div_add_mod' j sz
    by_cases hjk : j / sz = k
    · have hx : (l.set k x)[k]? = some x := by rw [List.getElem?_set_self hk]
      obtain ⟨u, hu⟩ := getElem?_some_of_lt (l := enc x) (k := j % sz) (by rw [he]; exact hm)
      have := flatMap_get he hx hu
      rw [← hjk, hd] at this
      rw [hjk] at this hd
      rw [this, if_pos (by rw [he]; omega), show j - k * sz = j % sz from by omega, hu]
    · obtain ⟨y, hy⟩ := getElem?_some_of_lt hq
      have hy2 : (l.set k x)[j / sz]? = some y := by rw [List.getElem?_set_ne (Ne.symm hjk)]; exact hy
      obtain ⟨u, hu⟩ := getElem?_some_of_lt (l := enc y) (k := j % sz) (by rw [he]; exact hm)
      have h1 := flatMap_get he hy2 hu
      have h2 := flatMap_get he hy hu
      rw [hd] at h1 h2
      rw [h1, h2, if_neg]
      rw [he]
      intro ⟨a, b⟩
      have := (blk_div s0 a b)
      exact hjk this
  · rw [List.getElem?_eq_none (by rw [flatMap_length he]; simpa using Nat.le_of_not_lt hj), if_neg (by rw [he]; omega), List.getElem?_eq_none (by rw [hl]; omega)]
where blk_div {sz k j : Nat} (s0 : 0 < sz) (a : k * sz ≤ j) (b : j < k * sz + sz) : j / sz = k := Nat.div_eq_of_lt_le (by rwa [Nat.mul_comm] at a ⊢ <;> exact a) (by rw [Nat.add_mul, Nat.one_mul]; exact b)
theorem Own.ap {α : Type} {enc : α → List Value} {e sz lo : Nat} {w : World} {v : Value} {l : List α} (h : Own enc e sz lo w v l) {g : Nat} (i : Nat) (u : Value) (hap : v.ownBlock = none ∨ v.ownBlock ≠ some g) : Own enc e sz lo (w.setCell ⟨g, i, none⟩ u) v l :=
  Own.kept h (grownBy_set w ⟨g, i, none⟩ u) hap
theorem own_row0 {α : Type} {enc : α → List Value} {e sz lo g : Nat} {W : World} (hrow : W.heap[g]? = some (.cells #[] e (0, 0))) (hlo : lo ≤ g) : Own enc e sz lo W (.slice (some ⟨g, 0, none⟩) 0 0) [] :=
  ⟨by simp, .inr ⟨g, 0, #[], rfl, hlo, hrow, Nat.le_refl _, by decide, by simp, by simp⟩⟩
/-- An effect is put at a place. -/
theorem OE.put {eT eE lo n cap g : Nat} {w : World} {ts : List TE} {k : Nat} {x : TE} (h : OE eT eE lo w (.slice (some ⟨g, 0, none⟩) n cap) ts) (hn : n = ts.length) (hk : k < ts.length) (hr : Own Ent.enc eE 2 lo w x.vr x.r) (ar : Apart x.vr (.slice (some ⟨g, 0, none⟩) n cap)) (hw : Own Ent.enc eE 2 lo w x.vw x.w) (aw : Apart x.vw (.slice (some ⟨g, 0, none⟩) n cap)) :
    OE eT eE lo (((w.setCell ⟨g, k * 3, none⟩ (.bool x.d)).setCell ⟨g, k * 3 + 1, none⟩ x.vr).setCell ⟨g, k * 3 + 2, none⟩ x.vw) (.slice (some ⟨g, 0, none⟩) n cap) (ts.set k x) := by
  subst hn
  have keep : ∀ {v : Value} {l : List Ent}, Own Ent.enc eE 2 lo w v l → Apart v (.slice (some ⟨g, 0, none⟩) ts.length cap) → Own Ent.enc eE 2 lo (((w.setCell ⟨g, k * 3, none⟩ (.bool x.d)).setCell ⟨g, k * 3 + 1, none⟩ x.vr).setCell ⟨g, k * 3 + 2, none⟩ x.vw) v l := fun h a => ((h.ap _ _ a).ap _ _ a).ap _ _ a
  refine ⟨?_, fun y hy => ?_⟩
  · have h1 : w.ownsRow lo eT 3 (.slice (some ⟨g, 0, none⟩) ts.length cap) ts.length (ts.flatMap TE.enc) := h.1
    have h2 := ownsRow_setAll (TE.enc x) (k * 3) h1
    rw [← flatMap_setAll TE.enc_length hk] at h2
    show World.ownsRow _ _ _ _ _ _ _
    rw [List.length_set]
    exact h2
  · rcases List.mem_or_eq_of_mem_set hy with hm | rfl
    · obtain ⟨⟨a1, a2⟩, ⟨a3, a4⟩⟩ := h.2 y hm
      exact ⟨⟨keep a1 a2, a2⟩, ⟨keep a3 a4, a4⟩⟩
    · exact ⟨⟨keep hr ar, ar⟩, ⟨keep hw aw, aw⟩⟩
theorem zeros_flat (n : Nat) : (madeCells #[.bool false, .slice none 0 0, .slice none 0 0] (n * 3)).toList = (List.replicate n zeroTE).flatMap TE.enc := by
  apply List.ext_getElem?
  intro j
  by_cases hj : j < n * 3
  · have hq : j / 3 < n := by omega
    have hx : (List.replicate n zeroTE)[j / 3]? = some zeroTE := by rw [List.getElem?_replicate, if_pos hq]
    obtain ⟨u, hu⟩ := getElem?_some_of_lt (l := TE.enc zeroTE) (k := j % 3) (by rw [TE.enc_length]; omega)
    have := flatMap_get TE.enc_length hx hu
    rw [show j / 3 * 3 + j % 3 = j from by omega] at this
    rw [this, ← hu]
    simp only [madeCells, Array.getElem?_toList]
    rw [Array.getElem?_map, Array.getElem?_range, if_pos hj]
    simp only [Option.map_some]
    rcases (show j % 3 = 0 ∨ j % 3 = 1 ∨ j % 3 = 2 by omega) with h | h | h <;> (rw [show (#[Value.bool false, Value.slice none 0 0, Value.slice none 0 0] : Array Value).size = 3 from rfl, h]; rfl)
  · rw [List.getElem?_eq_none (by simp [madeCells]; omega), List.getElem?_eq_none (by rw [flatMap_length TE.enc_length]; simp; omega)]
theorem infEff : ∃ i, Try.prog.info? 115 = some i ∧ i.zero = some (.agg #[.bool false, .slice none 0 0, .slice none 0 0]) ∧ i.size = 3 ∧ i.bytes = 56 := by
  have h : (Try.prog.info? 115).map (fun i => (i.zero, i.size, i.bytes)) = some (some (.agg #[.bool false, .slice none 0 0, .slice none 0 0]), 3, 56) := by kernel_rfl
  obtain ⟨i0, hi, hz0, hz1, hz2⟩ := info_parts h
  exact ⟨i0, hi, hz0, hz1, hz2⟩
/-- make([]Effect, n). -/
theorem wpList_mkEff {ops : Array Oper} {rest : List Oper} {o : Oper} {a : Act} {w : World} {Q : Exit → Act → World → Prop} (hgd : o.guard = none) (s x : Operand)
    (ho : o.op = .makeSlice 53 s x) (n : Nat) (hs : a.eval s = .int .i64 (n : Int)) (hx : a.eval x = .int .i64 (n : Int)) (hb : n ≤ 1000000)
    (h : ∀ (z1 : Extd w), OE 115 97 w.heap.size z1.val (.slice (some ⟨w.heap.size, 0, none⟩) n n) (List.replicate n zeroTE) → wpList Try.prog ops Q rest (a.put o.dst (.slice (some ⟨w.heap.size, 0, none⟩) n n)) z1.val) : wpList Try.prog ops Q (o :: rest) a w := by
  obtain ⟨i, hi, hz, hsize, hby⟩ := infEff
  refine wpList_make_full w hgd s x 53 ho w.heap.size 115 i _ 3 Try.underlying53 hi hz hsize .i64 .i64 _ _ n hs hx rfl rfl (by rw [hby]; omega) (by unfold maxLen; omega) (Nat.le_refl _) ?_
  intro w1 hown1 hg
  refine h ⟨w1, (Ext.refl w).grown hg (fun k hk => by cases hk)⟩ ⟨?_, fun y hy => ?_⟩
  · show World.ownsRow _ _ _ _ _ _ _
    rw [List.length_replicate, ← zeros_flat]
    exact hown1
  · obtain rfl := (List.mem_replicate.1 hy).2
    exact ⟨⟨Own.nil _ _ _ _ _, Apart.nil _ _ _⟩, ⟨Own.nil _ _ _ _ _, Apart.nil _ _ _⟩⟩
end Go.Proofs.Ytknohbdhbjppjaa
namespace Go.Proofs.Ytknohbdhbjppjaa
open Go Go.RowKit Go.Proofs

theorem flatMap_set {α : Type} {enc : α → List Value} {sz : Nat} (he : ∀ x, (enc x).length = sz) {x' : α} {j : Nat} {u : Value} (hj : j < sz) : ∀ {l : List α} {k : Nat} {x : α}, l[k]? = some x → enc x' = (enc x).set j u → (l.flatMap enc).set (k * sz + j) u = (l.set k x').flatMap enc
  | [], k, x, h, _ => by simp at h
  | y :: l, 0, x, h, hu => by
    simp at h; subst h
    rw [List.set_cons_zero, List.flatMap_cons, List.flatMap_cons, hu, List.set_append_left _ _ (by rw [he]; omega)]
    simp
  | y :: l, k + 1, x, h, hu => by
    simp at h
    rw [List.set_cons_succ, List.flatMap_cons, List.flatMap_cons, List.set_append_right _ _ (by rw [he, Nat.succ_mul]; omega), he, show (k + 1) * sz + j - sz = k * sz + j from by rw [Nat.succ_mul]; omega]
    rw [flatMap_set he hj h hu]
theorem Own.setAt {α : Type} {enc : α → List Value} {e sz lo g n c : Nat} (he : ∀ x, (enc x).length = sz) {w : World} {l : List α} (h : Own enc e sz lo w (.slice (some ⟨g, 0, none⟩) n c) l) {k : Nat} {x x' : α} {j : Nat} {u : Value} (hx : l[k]? = some x) (hj : j < sz) (hu : enc x' = (enc x).set j u) :
    Own enc e sz lo (w.setCell ⟨g, k * sz + j, none⟩ u) (.slice (some ⟨g, 0, none⟩) n c) (l.set k x') := by
  have hn : n = l.length := by
    rcases h.2 with ⟨h0, _⟩ | ⟨g', cap', cur, hv, _⟩
    · cases h0
    · cases hv; rfl
  subst hn
  have h2 := (World.ownsRow.stored h (k * sz + j) u).1
  rw [flatMap_set he hj hx hu] at h2
  show World.ownsRow _ _ _ _ _ _ _
  rw [List.length_set]
  exact h2
section
variable {eE eB eA eI lo : Nat} {w w' : World} {v0 v1 v2 : Value} {base : List Ent} {bs : List TB} {pr : List Int}
theorem ob_pair {bs : List TB} : bs.Pairwise (fun x y => Apart x.v y.v) ↔ (bs.map TB.v).Pairwise Apart := by rw [List.pairwise_map]
theorem map_set_v {bs : List TB} {k : Nat} {x x' : TB} (hx : bs[k]? = some x) (hv : x'.v = x.v) : (bs.set k x').map TB.v = bs.map TB.v := by
  rw [List.map_set]
  apply List.ext_getElem?
  intro i
  rw [List.getElem?_set]
  split
  · rename_i e
    subst e
    split
    · rw [List.getElem?_map, hx, hv]; rfl
    · rename_i h1
      have := (List.getElem?_eq_some_iff.1 hx).1
      simp at h1; omega
  · rfl
theorem OTA.setB {g n c : Nat} (h : OTA eE eB eA eI lo w v0 (.slice (some ⟨g, 0, none⟩) n c) v2 base bs pr) {k : Nat} {x x' : TB} {j : Nat} {u : Value} (hx : bs[k]? = some x) (hj : j < 6) (hu : x'.enc = x.enc.set j u) (hv : x'.v = x.v) (hl : x'.l = x.l) :
    OTA eE eB eA eI lo (w.setCell ⟨g, k * 6 + j, none⟩ u) v0 (.slice (some ⟨g, 0, none⟩) n c) v2 base (bs.set k x') pr := by
  have hm := List.mem_of_getElem? hx
  have ne : ∀ v : Value, Apart v (.slice (some ⟨g, 0, none⟩) n c) → v.ownBlock = none ∨ v.ownBlock ≠ some g := fun v a => a
  have hmem : ∀ y ∈ bs.set k x', ∃ z ∈ bs, y.v = z.v ∧ y.l = z.l := fun y hy => by
    rcases List.mem_or_eq_of_mem_set hy with hy | rfl
    · exact ⟨y, hy, rfl, rfl⟩
    · exact ⟨x, hm, hv, hl⟩
  refine ⟨h.obase.setApart _ u (ne _ h.a01), ⟨Own.setAt TB.enc_length h.obs.1 hx hj hu, fun y hy => ?_, ?_⟩, h.opr.setApart _ u (ne _ h.a21), h.a01, h.a21, h.a02, fun y hy => ?_, fun y hy => ?_⟩
  · obtain ⟨z, hz, e1, e2⟩ := hmem y hy
    rw [e1, e2]
    exact ⟨(h.obs.2.1 z hz).1.setApart _ u (ne _ (h.obs.2.1 z hz).2), (h.obs.2.1 z hz).2⟩
  · rw [ob_pair, map_set_v hx hv, ← ob_pair]; exact h.obs.2.2
  · obtain ⟨z, hz, e1, _⟩ := hmem y hy
    rw [e1]; exact h.in0 z hz
  · obtain ⟨z, hz, e1, _⟩ := hmem y hy
    rw [e1]; exact h.in2 z hz
theorem OTA.setI {g n c : Nat} (h : OTA eE eB eA eI lo w v0 v1 (.slice (some ⟨g, 0, none⟩) n c) base bs pr) {k : Nat} {a b : Int} (hx : pr[k]? = some a) :
    OTA eE eB eA eI lo (w.setCell ⟨g, k, none⟩ (.int .i64 b)) v0 v1 (.slice (some ⟨g, 0, none⟩) n c) base bs (pr.set k b) := by
  have ne : ∀ v : Value, Apart v (.slice (some ⟨g, 0, none⟩) n c) → v.ownBlock = none ∨ v.ownBlock ≠ some g := fun v a => a
  have ho := Own.setAt encI_length h.opr (x' := b) (j := 0) (u := .int .i64 b) hx (by decide) rfl
  rw [Nat.mul_one, Nat.add_zero] at ho
  exact ⟨h.obase.setApart _ _ (ne _ h.a02), ⟨h.obs.1.setApart _ _ (ne _ h.a21.symm), fun x hx => ⟨(h.obs.2.1 x hx).1.setApart _ _ (ne _ (h.in2 x hx)), (h.obs.2.1 x hx).2⟩, h.obs.2.2⟩, ho, h.a01, h.a21, h.a02, h.in0, h.in2⟩
theorem OTA.snocE {v0' : Value} {x : Ent} (h : OTA eE eB eA eI lo w v0 v1 v2 base bs pr) (hg : w.grownBy w' v0.ownBlock) (hb : v0'.ownBlock = v0.ownBlock ∨ v0'.ownBlock = some w.heap.size)
    (ho : Own Ent.enc eE 2 lo w' v0' (base ++ [x])) : OTA eE eB eA eI lo w' v0' v1 v2 (base ++ [x]) bs pr := by
  refine ⟨ho, ⟨h.obs.1.keep hg h.a01.symm, fun x hx => ⟨(h.obs.2.1 x hx).1.keep hg (h.in0 x hx), (h.obs.2.1 x hx).2⟩, h.obs.2.2⟩, h.opr.keep hg h.a02.symm, ?_, h.a21, ?_, fun x hx => Apart.grown (h.obs.2.1 x hx).1 (h.in0 x hx) (Nat.le_refl _) hb, h.in2⟩
  · exact (Apart.grown h.obs.1 h.a01.symm (Nat.le_refl _) hb).symm
  · exact (Apart.grown h.opr h.a02.symm (Nat.le_refl _) hb).symm
theorem OTA.rowB {m : Nat} (h : OTA eE eB eA eI lo w v0 v1 v2 base bs pr) (hm : m < bs.length) : ∃ (g off c : Nat) (x : TB), v1 = .slice (some ⟨g, off, none⟩) bs.length c ∧ off = 0 ∧ bs[m]? = some x ∧ LtS g w ∧ lo ≤ g ∧ w.cell? ⟨g, off + m * 6 + 1, none⟩ = some (.int .i64 x.b.ht) ∧ w.frozen? ⟨g, off + m * 6 + 1, none⟩ = false := by
  obtain ⟨x, hx⟩ := getElem?_some_of_lt hm
  obtain ⟨a, c, hv, _, hcc⟩ := (h.obs.1.sl TB.enc_length).open
  rcases h.obs.1.2 with ⟨h0, hn⟩ | ⟨g, cap, cur, hv', hlo, hg, _⟩
  · omega
  · have h1 := h.obs.1
    rw [hv] at hv'
    cases hv'
    obtain ⟨b, off, e, _, hcell⟩ := hcc m x hx
    cases e
    subst hv
    exact ⟨g, 0, c, x, rfl, rfl, hx, ⟨(Array.getElem?_eq_some_iff.1 hg).1⟩, hlo, hcell 1 _ rfl, World.ownsRow.frozenAt h1 _⟩
theorem OTA.rowI {m : Nat} (h : OTA eE eB eA eI lo w v0 v1 v2 base bs pr) (hm : m < pr.length) : ∃ (g off c : Nat) (a : Int), v2 = .slice (some ⟨g, off, none⟩) pr.length c ∧ off = 0 ∧ pr[m]? = some a ∧ LtS g w ∧ lo ≤ g ∧ w.cell? ⟨g, off + m, none⟩ = some (.int .i64 a) ∧ w.frozen? ⟨g, off + m, none⟩ = false := by
  obtain ⟨x, hx⟩ := getElem?_some_of_lt hm
  obtain ⟨a, c, hv, _, hcc⟩ := (h.opr.sl encI_length).open
  rcases h.opr.2 with ⟨h0, hn⟩ | ⟨g, cap, cur, hv', hlo, hg, _⟩
  · omega
  · have h1 := h.opr
    rw [hv] at hv'
    cases hv'
    obtain ⟨b, off, e, _, hcell⟩ := hcc m x hx
    cases e
    subst hv
    have hc0 := hcell 0 _ rfl
    rw [Nat.mul_one, Nat.add_zero] at hc0
    exact ⟨g, 0, c, x, rfl, rfl, hx, ⟨(Array.getElem?_eq_some_iff.1 hg).1⟩, hlo, hc0, World.ownsRow.frozenAt h1 _⟩
end
/-- What LT keeps without 'valid': for the tree that is bent. -/
structure LB (eT eE eB eA eI rb G : Nat) (w wr : World) (u0 u1 u2 : Value) (t : Tree) (bs : List TB) : Prop where
  gb : w.grownBy wr (some rb)
  box : wr.heap[G]? = some (.cells #[u0, u1, u2] eT (0, 0))
  res : wr.heap[w.heap.size]? = some (.cells #[.slice none 0 0, .slice none 0 0, .slice none 0 0] eT (0, 0))
  ot : OTA eE eB eA eI (w.heap.size + 1) wr u0 u1 u2 t.base bs t.pr
  core : bs.map TB.core = t.bs
theorem LT.lb {eT eE eB eA eI rb G : Nat} {w wr : World} {u0 u1 u2 : Value} {t : Tree} {bs : List TB} (h : LT eT eE eB eA eI rb G w wr u0 u1 u2 t bs) : LB eT eE eB eA eI rb G w wr u0 u1 u2 t bs := ⟨h.gb, h.box, h.res, h.ot, h.core⟩
end Go.Proofs.Ytknohbdhbjppjaa
namespace Go.Proofs.Ytknohbdhbjppjaa
open Go Go.RowKit Go.Proofs

set_option maxHeartbeats 1000000 in
theorem eqEffect_same (x : Eff) (vr vw vr' vw' : Value) (w : World) (h1 : SL (RF Ent.enc) 2 w vr x.r) (h2 : SL (RF Ent.enc) 2 w vw x.w) (h3 : SL (RF Ent.enc) 2 w vr' x.r) (h4 : SL (RF Ent.enc) 2 w vw' x.w) :
    Calls Try.prog 101 #[.agg #[.bool x.d, vr, vw], .agg #[.bool x.d, vr', vw']] w fun e w' => e = .returned (.bool true) ∧ Up w w' := by
  have H1 := Lib.hid h1; have H2 := Lib.hid h2; have H3 := Lib.hid h3; have H4 := Lib.hid h4
  obtain ⟨p1, c1, rfl, _, _⟩ := h1.openc
  obtain ⟨p2, c2, rfl, _, _⟩ := h2.openc
  obtain ⟨p3, c3, rfl, _, _⟩ := h3.openc
  obtain ⟨p4, c4, rfl, _, _⟩ := h4.openc
  clear h1 h2 h3 h4
  go_enter Try.func101, Try.ntmps101
  go_wp2_with fail
  refine (eqEntryS_same x.r _ _ _ (H1.out.up (by repeat (first | (with_reducible exact Ext.refl _) | (with_reducible refine Ext.up ?_ _) | (with_reducible refine Ext.alloc ?_ _) | (with_reducible refine Ext.drew ?_) | (with_reducible refine Ext.setRow ?_ (by first | exact LeS.le | exact LeS.add _ | (simp; done) | (simp; omega)) _) | (with_reducible refine Ext.setCell ?_ (by first | exact LeS.le | exact LeS.add _ | (simp; done) | (simp; omega)) _)))) (H3.out.up (by repeat (first | (with_reducible exact Ext.refl _) | (with_reducible refine Ext.up ?_ _) | (with_reducible refine Ext.alloc ?_ _) | (with_reducible refine Ext.drew ?_) | (with_reducible refine Ext.setRow ?_ (by first | exact LeS.le | exact LeS.add _ | (simp; done) | (simp; omega)) _) | (with_reducible refine Ext.setCell ?_ (by first | exact LeS.le | exact LeS.add _ | (simp; done) | (simp; omega)) _))))).mono ?_; rintro e w' ⟨rfl, z1, rfl⟩
  go_wp2_with fail
  refine (eqEntryS_same x.w _ _ _ (H2.out.up (by repeat (first | (with_reducible exact Ext.refl _) | (with_reducible refine Ext.up ?_ _) | (with_reducible refine Ext.alloc ?_ _) | (with_reducible refine Ext.drew ?_) | (with_reducible refine Ext.setRow ?_ (by first | exact LeS.le | exact LeS.add _ | (simp; done) | (simp; omega)) _) | (with_reducible refine Ext.setCell ?_ (by first | exact LeS.le | exact LeS.add _ | (simp; done) | (simp; omega)) _)))) (H4.out.up (by repeat (first | (with_reducible exact Ext.refl _) | (with_reducible refine Ext.up ?_ _) | (with_reducible refine Ext.alloc ?_ _) | (with_reducible refine Ext.drew ?_) | (with_reducible refine Ext.setRow ?_ (by first | exact LeS.le | exact LeS.add _ | (simp; done) | (simp; omega)) _) | (with_reducible refine Ext.setCell ?_ (by first | exact LeS.le | exact LeS.add _ | (simp; done) | (simp; omega)) _))))).mono ?_; rintro e w' ⟨rfl, z2, rfl⟩
  go_wp2_with fail
  go_ret
  exact ⟨rfl, (.of (by repeat (first | (with_reducible exact Ext.refl _) | (with_reducible refine Ext.up ?_ _) | (with_reducible refine Ext.alloc ?_ _) | (with_reducible refine Ext.drew ?_) | (with_reducible refine Ext.setRow ?_ (by first | exact LeS.le | exact LeS.add _ | (simp; done) | (simp; omega)) _) | (with_reducible refine Ext.setCell ?_ (by first | exact LeS.le | exact LeS.add _ | (simp; done) | (simp; omega)) _))))⟩
set_option maxHeartbeats 1000000 in
theorem eqEffectS_same (es : List Eff) (v v' : Value) (w : World) (h : SE w v es) (h' : SE w v' es) :
    Calls Try.prog 40 #[v, v'] w fun e w' => e = .returned (.bool true) ∧ Up w w' := by
  obtain ⟨a, cap, rfl, hlen, hcap, hc⟩ := h.open
  obtain ⟨a', cap', rfl, _, hcap', hc'⟩ := h'.open
  clear h h' hcap hcap'
  go_enter Try.func40, Try.ntmps40
  go_wp2_with fail
  go_loopw [5] (fun s5 wr => ∃ (k : Nat), s5 = .int .i64 k ∧ k ≤ es.length ∧ Up w wr) (fun s5 _ => es.length - (intOf s5).toNat)
  case atStart => exact ⟨0, rfl, Nat.zero_le _, .of (Ext.refl _)⟩
  case round =>
    obtain ⟨k, rfl, hk, ⟨z, rfl⟩⟩ := hrel
    by_cases hlt : k < es.length
    · obtain ⟨x, hxk⟩ := getElem?_some_of_lt hlt
      obtain ⟨b, off, q1, d1, q2, d2, rfl, hb, e0, e1, e2, s1, s2⟩ := hc k x hxk
      obtain ⟨b', off', q3, d3, q4, d4, rfl, hb', g0, g1, g2, s3, s4⟩ := hc' k x hxk
      have k0 : (0 : Int) ≤ (k : Int) := by omega
      have S1 := Lib.hid s1; have S2 := Lib.hid s2; have S3 := Lib.hid s3; have S4 := Lib.hid s4
      clear hc hc' hxk s1 s2 s3 s4
      go_wp2_with fail
      (refine wp_region_up (by kernel_rfl) (by kernel_rfl) ?_; (repeat (go_big_quiet_step ((go_at_call 101; exact Calls.up (eqEffect_same x _ _ _ _ _ (S1.out.up (by repeat (first | (with_reducible exact Ext.refl _) | (with_reducible refine Ext.up ?_ _) | (with_reducible refine Ext.alloc ?_ _) | (with_reducible refine Ext.drew ?_) | (with_reducible refine Ext.setRow ?_ (by first | exact LeS.le | exact LeS.add _ | (simp; done) | (simp; omega)) _) | (with_reducible refine Ext.setCell ?_ (by first | exact LeS.le | exact LeS.add _ | (simp; done) | (simp; omega)) _)))) (S2.out.up (by repeat (first | (with_reducible exact Ext.refl _) | (with_reducible refine Ext.up ?_ _) | (with_reducible refine Ext.alloc ?_ _) | (with_reducible refine Ext.drew ?_) | (with_reducible refine Ext.setRow ?_ (by first | exact LeS.le | exact LeS.add _ | (simp; done) | (simp; omega)) _) | (with_reducible refine Ext.setCell ?_ (by first | exact LeS.le | exact LeS.add _ | (simp; done) | (simp; omega)) _)))) (S3.out.up (by repeat (first | (with_reducible exact Ext.refl _) | (with_reducible refine Ext.up ?_ _) | (with_reducible refine Ext.alloc ?_ _) | (with_reducible refine Ext.drew ?_) | (with_reducible refine Ext.setRow ?_ (by first | exact LeS.le | exact LeS.add _ | (simp; done) | (simp; omega)) _) | (with_reducible refine Ext.setCell ?_ (by first | exact LeS.le | exact LeS.add _ | (simp; done) | (simp; omega)) _)))) (S4.out.up (by repeat (first | (with_reducible exact Ext.refl _) | (with_reducible refine Ext.up ?_ _) | (with_reducible refine Ext.alloc ?_ _) | (with_reducible refine Ext.drew ?_) | (with_reducible refine Ext.setRow ?_ (by first | exact LeS.le | exact LeS.add _ | (simp; done) | (simp; omega)) _) | (with_reducible refine Ext.setCell ?_ (by first | exact LeS.le | exact LeS.add _ | (simp; done) | (simp; omega)) _))))))))); refine wpQuiet_nil ?_; intro _ hw'; obtain ⟨zq, hw''⟩ := hw'; subst hw'')
      go_wp2_with fail
      go_roundw
      case rel => exact ⟨k + 1, by go_num, by omega, (.of (by repeat (first | (with_reducible exact Ext.refl _) | (with_reducible refine Ext.up ?_ _) | (with_reducible refine Ext.alloc ?_ _) | (with_reducible refine Ext.drew ?_) | (with_reducible refine Ext.setRow ?_ (by first | exact LeS.le | exact LeS.add _ | (simp; done) | (simp; omega)) _) | (with_reducible refine Ext.setCell ?_ (by first | exact LeS.le | exact LeS.add _ | (simp; done) | (simp; omega)) _))))⟩
      case measure => simp [intOf]; omega
    · go_wp2_with fail
      go_ret
      exact ⟨rfl, z, rfl⟩
/-! ### Marks -/
def mkE (m : Int) (x : TE) : TE := ⟨m % 3 == 0, x.vr, x.vw, marksEnt (m + 1) x.r.length, marksEnt (m + 1 + 2 * x.r.length) x.w.length⟩
def mkN (m : Int) (x : TE) : Int := m + 1 + 2 * x.r.length + 2 * x.w.length
def mkL : Int → List TE → List TE
  | _, [] => []
  | m, x :: ts => mkE m x :: mkL (mkN m x) ts
def mkM : Int → List TE → Int
  | m, [] => m
  | m, x :: ts => mkM (mkN m x) ts
theorem mkL_len : ∀ (ts : List TE) (m : Int), (mkL m ts).length = ts.length
  | [], _ => rfl
  | x :: ts, m => by rw [mkL, List.length_cons, mkL_len ts, List.length_cons]
theorem mkM_append : ∀ (ts us : List TE) (m : Int), mkM m (ts ++ us) = mkM (mkM m ts) us
  | [], _, _ => rfl
  | x :: ts, us, m => mkM_append ts us (mkN m x)
theorem mkL_append : ∀ (ts us : List TE) (m : Int), mkL m (ts ++ us) = mkL m ts ++ mkL (mkM m ts) us
  | [], _, _ => rfl
  | x :: ts, us, m => by
    show mkE m x :: mkL (mkN m x) (ts ++ us) = mkE m x :: mkL (mkN m x) ts ++ mkL (mkM (mkN m x) ts) us
    rw [mkL_append ts us]; rfl
/-- How many numbers effects take. -/
def effW (ts : List TE) : Nat := (ts.map fun x => 1 + 2 * x.r.length + 2 * x.w.length).sum
theorem mkM_eq : ∀ (ts : List TE) (m : Int), mkM m ts = m + effW ts
  | [], m => by simp [mkM, effW]
  | x :: ts, m => by
    rw [mkM, mkM_eq ts]
    simp only [effW, List.map_cons, List.sum_cons, mkN]
    push_cast
    omega
theorem effW_take (ts : List TE) (k : Nat) : effW (ts.take k) ≤ effW ts := by
  unfold effW
  have : ∀ (l : List Nat) (k : Nat), (l.take k).sum ≤ l.sum := by
    intro l
    induction l with
    | nil => intro k; simp
    | cons a l ih => intro k; cases k with
      | zero => simp
      | succ k => simp only [List.take_succ_cons, List.sum_cons]; have := ih k; omega
  rw [List.map_take]
  exact this _ k
/-- Blocks that meet B may have turned, no others. -/
structure Chg (w w' : World) (B : Nat → Prop) : Prop where
  os : w'.os = w.os
  tape : w'.tape = w.tape
  output : w'.output = w.output
  size : w.heap.size ≤ w'.heap.size
  block : ∀ b, b < w.heap.size → ¬ B b → w'.heap[b]? = w.heap[b]?
theorem Chg.refl (w : World) (B : Nat → Prop) : Chg w w B := ⟨rfl, rfl, rfl, Nat.le_refl _, fun _ _ _ => rfl⟩
theorem Chg.grown {a b c : World} {B : Nat → Prop} {r : Option Nat} (h : Chg a b B) (hg : b.grownBy c r) (hr : ∀ k, r = some k → B k) : Chg a c B :=
  ⟨hg.os.trans h.os, hg.tape.trans h.tape, hg.output.trans h.output, Nat.le_trans h.size hg.size, fun n hn hB => (hg.block n (Nat.lt_of_lt_of_le hn h.size) (fun e => hB (hr n e.symm))).trans (h.block n hn hB)⟩
theorem Chg.own {α : Type} {enc : α → List Value} {e sz lo : Nat} {w w' : World} {B : Nat → Prop} {v : Value} {l : List α} (h : Own enc e sz lo w v l) (hc : Chg w w' B) (hb : ∀ k, v.ownBlock = some k → ¬ B k) : Own enc e sz lo w' v l := by
  refine ⟨h.1, ?_⟩
  rcases h.2 with h2 | ⟨g, cap, cur, hv, hlo, hg, r⟩
  · exact .inl h2
  · exact .inr ⟨g, cap, cur, hv, hlo, (hc.block g (Array.getElem?_eq_some_iff.1 hg).1 (hb g (by rw [hv]; rfl))).trans hg, r⟩
theorem Chg.ext {w0 w w' : World} {B : Nat → Prop} (hE : Ext w0 w) (hc : Chg w w' B) (hB : ∀ k, B k → w0.heap.size ≤ k) : Ext w0 w' :=
  ⟨hc.os.trans hE.1, hc.tape.trans hE.2, hc.output.trans hE.3, Nat.le_trans hE.size hc.size, fun k hk => (hc.block k (Nat.lt_of_lt_of_le hk hE.size) (fun h => by have := hB k h; omega)).trans (hE.block hk)⟩
theorem mkL_get : ∀ (ts : List TE) (m : Int) (j : Nat) (y : TE), (mkL m ts)[j]? = some y → ∃ t, ts[j]? = some t ∧ y.vr = t.vr ∧ y.vw = t.vw
  | [], _, _, _, h => by simp [mkL] at h
  | x :: ts, m, 0, y, h => by
    simp [mkL] at h
    subst h
    exact ⟨x, rfl, rfl, rfl⟩
  | x :: ts, m, j + 1, y, h => mkL_get ts (mkN m x) j y (by simpa [mkL] using h)
theorem mix_get {ts : List TE} {m : Int} {k : Nat} (hk : k ≤ ts.length) {j : Nat} {y : TE} (h : (mkL m (ts.take k) ++ ts.drop k)[j]? = some y) : ∃ t, ts[j]? = some t ∧ y.vr = t.vr ∧ y.vw = t.vw := by
  have hl : (mkL m (ts.take k)).length = k := by rw [mkL_len, List.length_take]; omega
  by_cases hj : j < k
  · rw [List.getElem?_append_left (by omega)] at h
    obtain ⟨t, h1, h2⟩ := mkL_get _ _ _ _ h
    rw [List.getElem?_take_of_lt hj] at h1
    exact ⟨t, h1, h2⟩
  · rw [List.getElem?_append_right (by omega), hl, List.getElem?_drop, show k + (j - k) = j from by omega] at h
    exact ⟨y, h, rfl, rfl⟩
theorem mix_at {ts : List TE} {m : Int} {k : Nat} {x : TE} (h : ts[k]? = some x) : (mkL m (ts.take k) ++ ts.drop k)[k]? = some x := by
  have hk := (List.getElem?_eq_some_iff.1 h).1
  have hl : (mkL m (ts.take k)).length = k := by rw [mkL_len, List.length_take]; omega
  rw [List.getElem?_append_right (by omega), hl, List.getElem?_drop]; simpa using h
theorem mix_next {ts : List TE} {m : Int} {k : Nat} {x : TE} (h : ts[k]? = some x) : mkL m (ts.take (k + 1)) ++ ts.drop (k + 1) = (mkL m (ts.take k) ++ ts.drop k).set k (mkE (mkM m (ts.take k)) x) := by
  have hk := (List.getElem?_eq_some_iff.1 h).1
  have hl : (mkL m (ts.take k)).length = k := by rw [mkL_len, List.length_take]; omega
  have hd : ts.drop k = x :: ts.drop (k + 1) := by
    rw [List.drop_eq_getElem_cons hk]
    congr 1
    exact (List.getElem?_eq_some_iff.1 h).2
  rw [List.set_append_right _ _ (by omega), hl, Nat.sub_self, hd, List.set_cons_zero, List.take_add_one, h, mkL_append]
  simp [mkL]
theorem mix_len {ts : List TE} {m : Int} {k : Nat} (hk : k ≤ ts.length) : (mkL m (ts.take k) ++ ts.drop k).length = ts.length := by
  rw [List.length_append, mkL_len, List.length_take, List.length_drop]; omega
theorem mkM_snoc {ts : List TE} {m : Int} {k : Nat} {x : TE} (h : ts[k]? = some x) : mkM m (ts.take (k + 1)) = mkM m (ts.take k) + 1 + 2 * x.r.length + 2 * x.w.length := by
  rw [List.take_add_one, h, mkM_append]; rfl
/-- Which blocks marks turn. -/
def MB (v : Value) (ts : List TE) (b : Nat) : Prop := v.ownBlock = some b ∨ ∃ x ∈ ts, x.vr.ownBlock = some b ∨ x.vw.ownBlock = some b
theorem pw_at {ts : List TE} (h : PW ts) {j k : Nat} {a b : TE} (ha : ts[j]? = some a) (hb : ts[k]? = some b) (hne : j ≠ k) : (Apart a.vr b.vr ∧ Apart a.vr b.vw) ∧ (Apart a.vw b.vr ∧ Apart a.vw b.vw) := by
  obtain ⟨a1, a2⟩ := List.getElem?_eq_some_iff.1 ha
  obtain ⟨b1, b2⟩ := List.getElem?_eq_some_iff.1 hb
  have hp := h.2
  rw [List.pairwise_iff_getElem] at hp
  rcases Nat.lt_or_gt_of_ne hne with h7 | h7
  · have := hp j k a1 b1 h7; rw [a2, b2] at this; exact this
  · have := hp k j b1 a1 h7; rw [a2, b2] at this
    exact ⟨⟨this.1.1.symm, this.2.1.symm⟩, ⟨this.1.2.symm, this.2.2.symm⟩⟩
set_option maxRecDepth 100000 in
set_option maxHeartbeats 2000000 in
theorem markEffectS_any (lo : Nat) (ts : List TE) (v : Value) (m : Int) (w : World) (h : OE 115 97 lo w v ts) (hpw : PW ts) (hm0 : 0 ≤ m) (hm1 : m + effW ts ≤ 900000000) (hn : ts.length ≤ 1000) :
    Calls Try.prog 45 #[v, .int .i64 m] w fun e w' => e = .returned (.int .i64 (mkM m ts)) ∧ Chg w w' (MB v ts) ∧ OE 115 97 lo w' v (mkL m ts) := by
  obtain ⟨p, c, rfl, _, _⟩ := (h.1.sl TE.enc_length).openc
  have H := Lib.hid h; have Hpw := Lib.hid hpw
  clear h hpw
  go_enter Try.func45, Try.ntmps45
  go_wp2_with fail
  go_loopw [1, 5] (fun s1 s5 wr => ∃ (k : Nat), s5 = .int .i64 k ∧ s1 = .int .i64 (mkM m (ts.take k)) ∧ k ≤ ts.length ∧ Chg w wr (MB (.slice p ts.length c) ts) ∧ OE 115 97 lo wr (.slice p ts.length c) (mkL m (ts.take k) ++ ts.drop k)) (fun _ s5 _ => ts.length - (intOf s5).toNat)
  case atStart => exact ⟨0, rfl, rfl, Nat.zero_le _, Chg.refl _ _, H.out⟩
  case round =>
    obtain ⟨k, rfl, rfl, hk, hch, hoe⟩ := hrel
    have hmq := mkM_eq (ts.take k) m
    have hmt := effW_take ts k
    by_cases hlt : k < ts.length
    · obtain ⟨x, hxk⟩ := getElem?_some_of_lt hlt
      have hxm := List.mem_of_getElem? hxk
      have hL := mix_at (m := m) hxk
      have hLl := mix_len (m := m) hk
      have hnx := mkM_snoc (m := m) hxk
      have hmq2 := mkM_eq (ts.take (k + 1)) m
      have hmt2 := effW_take ts (k + 1)
      obtain ⟨g, c', hv⟩ : ∃ g c', Value.slice p ts.length c = .slice (some ⟨g, 0, none⟩) ts.length c' := by
        rcases hoe.1.2 with ⟨_, h0⟩ | ⟨g, cap, cur, hv, _⟩
        · rw [hLl] at h0; omega
        · exact ⟨g, cap, by rw [hv, hLl]⟩
      cases hv
      have Hnext := Lib.hid (mix_next (m := m) hxk)
      generalize hmk : mkM m (ts.take k) = mk at *
      have mk0 : 0 ≤ mk := by omega
      have mk1 : mk + 1 + 2 * (x.r.length : Int) + 2 * (x.w.length : Int) ≤ 900000000 := by omega
      obtain ⟨LL, hLL⟩ : ∃ LL, LL = mkL m (ts.take k) ++ ts.drop k := ⟨_, rfl⟩
      have Hget := Lib.hid (fun j y (hy : LL[j]? = some y) => mix_get (m := m) hk (by rw [← hLL]; exact hy))
      rw [← hLL] at hoe hL hLl Hnext
      obtain ⟨⟨x1, x2⟩, ⟨x3, x4⟩⟩ := hoe.2 x (List.mem_of_getElem? hL)
      obtain ⟨pa, ca, hvr, _, _⟩ := (x1.sl Ent.enc_length).openc
      obtain ⟨pb, cb, hvw, _, _⟩ := (x3.sl Ent.enc_length).openc
      have hrow : wr.ownsRow lo 115 3 (.slice (some ⟨g, 0, none⟩) ts.length c) ts.length (LL.flatMap TE.enc) := by have := hoe.1; rw [← hLl]; rw [← hLl] at this; exact this
      have d0 : wr.cell? ⟨g, k * 3, none⟩ = some (.bool x.d) := (hrow.cellAt _ (by omega)).trans (flatMap_get TE.enc_length hL (j := 0) rfl)
      have d1 : wr.cell? ⟨g, k * 3 + 1, none⟩ = some x.vr := (hrow.cellAt _ (by omega)).trans (flatMap_get TE.enc_length hL (j := 1) rfl)
      have f0 := hrow.frozenAt (k * 3)
      have hLg : LtS g wr := LtS.of_some d0
      rw [hvr] at d1
      have hxx := Hpw.out.1 x hxm
      have hO1 := Own.setAt TE.enc_length hoe.1 (j := 0) (u := .bool (mk % 3 == 0)) (x' := mkE mk x) hL (by decide) rfl
      have Hoe := Lib.hid hoe; have Hch := Lib.hid hch; have HO1 := Lib.hid hO1; have Hxx := Lib.hid hxx; have HL := Lib.hid hL; have Hxk := Lib.hid hxk; have Hxm := Lib.hid hxm
      have X1 := Lib.hid x1; have X2 := Lib.hid x2; have X3 := Lib.hid x3; have X4 := Lib.hid x4; have Hnx := Lib.hid hnx
      have HLl := Lib.hid hLl
      clear hxk hxm hL hLl hnx hmq hmt hmq2 hmt2 hoe hch hO1 hxx x1 x2 x3 x4 hrow hmk hLL
      go_wp2_with fail
      have vr1 := X1.out.ap (k * 3) (.bool (mk % 3 == 0)) X2.out
      rw [hvr] at vr1
      refine (markEntryS_any lo x.r (.slice pa x.r.length ca) (mk + 1) _ vr1 (by omega) (by omega) (by omega)).mono ?_; rintro e w2 ⟨rfl, hg2, om2⟩
      rw [← hvr] at hg2 om2
      have R2 : Own TE.enc 115 3 lo w2 (.slice (some ⟨g, 0, none⟩) ts.length c) (LL.set k (mkE mk x)) := Own.keep HO1.out hg2 X2.out.symm
      have hkl : k < LL.length := (List.getElem?_eq_some_iff.1 HL.out).1
      have hxs : (LL.set k (mkE mk x))[k]? = some (mkE mk x) := List.getElem?_set_self hkl
      have hr2 : w2.ownsRow lo 115 3 (.slice (some ⟨g, 0, none⟩) ts.length c) ts.length ((LL.set k (mkE mk x)).flatMap TE.enc) := by
        have := R2
        unfold Own at this
        rw [show (LL.set k (mkE mk x)).length = ts.length from by rw [List.length_set]; exact HLl.out] at this
        exact this
      have d2 : w2.cell? ⟨g, k * 3 + 2, none⟩ = some x.vw := (hr2.cellAt (k * 3 + 2) (by omega)).trans (flatMap_get TE.enc_length hxs (j := 2) rfl)
      rw [hvw] at d2
      have hLg2 : LtS g w2 := LtS.of_some d2
      have vw2 := Own.keep (X3.out.ap (k * 3) (.bool (mk % 3 == 0)) X4.out) hg2 Hxx.out.symm
      rw [hvw] at vw2
      have HR2 := Lib.hid R2; have OM2 := Lib.hid om2; have HG2 := Lib.hid hg2; have VW2 := Lib.hid vw2
      clear R2 hr2 om2 hg2 vw2 hxs vr1 d0 d1 f0 hLg
      go_wp2_with fail
      refine (markEntryS_any lo x.w (.slice pb x.w.length cb) _ _ VW2.out (by omega) (by omega) (by omega)).mono ?_; rintro e w3 ⟨rfl, hg3, om3⟩
      rw [← hvw] at hg3 om3
      have HR3 := Lib.hid (Own.keep HR2.out hg3 X4.out.symm)
      have VR3 := Lib.hid (Own.keep OM2.out hg3 Hxx.out)
      have HG3 := Lib.hid hg3; have OM3 := Lib.hid om3
      clear hg3 om3
      go_wp2_with fail
      go_roundw
      case rel =>
        refine ⟨k + 1, by go_num, by rw [Hnx.out], by omega, ((Hch.out.grown (grownBy_set wr ⟨g, k * 3, none⟩ (.bool (mk % 3 == 0))) (fun b hb => by cases hb; exact .inl rfl)).grown HG2.out (fun b hb => .inr ⟨x, Hxm.out, .inl hb⟩)).grown HG3.out (fun b hb => .inr ⟨x, Hxm.out, .inr hb⟩), ?_⟩
        rw [Hnext.out]
        refine ⟨HR3.out, fun y hy => ?_⟩
        obtain ⟨j, hj⟩ := List.getElem?_of_mem hy
        by_cases hjk : k = j
        · subst hjk
          rw [List.getElem?_set_self hkl] at hj
          cases hj
          exact ⟨⟨VR3.out, X2.out⟩, ⟨OM3.out, X4.out⟩⟩
        · rw [List.getElem?_set_ne hjk] at hj
          obtain ⟨⟨y1, y2⟩, ⟨y3, y4⟩⟩ := Hoe.out.2 y (List.mem_of_getElem? hj)
          obtain ⟨t, ht, e1, e2⟩ := Hget.out j y hj
          obtain ⟨⟨a1, a2⟩, ⟨a3, a4⟩⟩ := pw_at Hpw.out ht Hxk.out (Ne.symm hjk)
          rw [← e1] at a1 a2; rw [← e2] at a3 a4
          exact ⟨⟨Own.keep (Own.keep (y1.ap _ _ y2) HG2.out a1) HG3.out a2, y2⟩, ⟨Own.keep (Own.keep (y3.ap _ _ y4) HG2.out a3) HG3.out a4, y4⟩⟩
      case measure => simp [intOf]; omega
    · obtain rfl : k = ts.length := by omega
      rw [List.take_length, List.drop_length, List.append_nil] at hoe
      have Hoe := Lib.hid hoe; have Hch := Lib.hid hch
      clear hmq hmt hoe hch
      go_wp2_with fail
      go_ret
      exact ⟨by first | rfl | (simp; done), Hch.out, Hoe.out⟩
theorem mkL_at : ∀ (ts : List TE) (m : Int) (k : Nat) (x : TE), ts[k]? = some x → (mkL m ts)[k]? = some (mkE (mkM m (ts.take k)) x)
  | [], _, _, _, h => by simp at h
  | y :: ts, m, 0, x, h => by simp at h; subst h; rfl
  | y :: ts, m, k + 1, x, h => mkL_at ts (mkN m y) k x (by simpa using h)
/-- Effects that read as marks. -/
def SM (w : World) (v : Value) (m : Int) (ts : List TE) : Prop := SL (RF TE.enc) 3 w v (mkL m ts) ∧ ∀ x ∈ mkL m ts, SL (RF Ent.enc) 2 w x.vr x.r ∧ SL (RF Ent.enc) 2 w x.vw x.w
theorem SM.up {w w' : World} {v : Value} {m : Int} {ts : List TE} (h : SM w v m ts) (hE : Ext w w') : SM w' v m ts := ⟨h.1.up hE, fun x hx => ⟨(h.2 x hx).1.up hE, (h.2 x hx).2.up hE⟩⟩
theorem OE.sm {eT eE lo : Nat} {w : World} {v : Value} {m : Int} {ts : List TE} (h : OE eT eE lo w v (mkL m ts)) : SM w v m ts := ⟨h.1.sl TE.enc_length, fun x hx => ⟨(h.2 x hx).1.1.sl Ent.enc_length, (h.2 x hx).2.1.sl Ent.enc_length⟩⟩
set_option maxRecDepth 100000 in
set_option maxHeartbeats 2000000 in
theorem heldEffectS_marks (ts : List TE) (v : Value) (m : Int) (w : World) (h : SM w v m ts) (hm0 : 0 ≤ m) (hm1 : m + effW ts ≤ 900000000) (hn : ts.length ≤ 1000) :
    Calls Try.prog 47 #[v, .int .i64 m] w fun e w' => e = .returned (.int .i64 (mkM m ts)) ∧ w = w' := by
  obtain ⟨p, c, rfl, _, hc⟩ := h.1.open
  have Hd := Lib.hid h.2
  rw [mkL_len]
  clear h
  go_enter Try.func47, Try.ntmps47
  go_wp2_with fail
  go_loop [1, 5] (fun s1 s5 => ∃ (k : Nat), s5 = .int .i64 k ∧ s1 = .int .i64 (mkM m (ts.take k)) ∧ k ≤ ts.length) (fun _ s5 => ts.length - (intOf s5).toNat)
  case atStart => exact ⟨0, rfl, rfl, Nat.zero_le _⟩
  case round =>
    obtain ⟨k, rfl, rfl, hk⟩ := hrel
    have hmq := mkM_eq (ts.take k) m
    have hmt := effW_take ts k
    by_cases hlt : k < ts.length
    · obtain ⟨x, hxk⟩ := getElem?_some_of_lt hlt
      have hat := mkL_at ts m k x hxk
      have hnx := mkM_snoc (m := m) hxk
      have hmq2 := mkM_eq (ts.take (k + 1)) m
      have hmt2 := effW_take ts (k + 1)
      obtain ⟨b, off, rfl, hb, hcc⟩ := hc k _ hat
      generalize hmk : mkM m (ts.take k) = mk at *
      have mk0 : 0 ≤ mk := by omega
      have mk1 : mk + 1 + 2 * (x.r.length : Int) + 2 * (x.w.length : Int) ≤ 900000000 := by omega
      obtain ⟨s1, s2⟩ := Hd.out _ (List.mem_of_getElem? hat)
      have s1 : SL (RF Ent.enc) 2 w x.vr (marksEnt (mk + 1) x.r.length) := s1
      have s2 : SL (RF Ent.enc) 2 w x.vw (marksEnt (mk + 1 + 2 * x.r.length) x.w.length) := s2
      have c0 : w.cell? ⟨b, off + k * 3, none⟩ = some (.bool (mk % 3 == 0)) := hcc 0 _ rfl
      have c1 : w.cell? ⟨b, off + k * 3 + 1, none⟩ = some x.vr := hcc 1 _ rfl
      have c2 : w.cell? ⟨b, off + k * 3 + 2, none⟩ = some x.vw := hcc 2 _ rfl
      obtain ⟨pa, ca, hvr, _, _⟩ := s1.openc
      obtain ⟨pb, cb, hvw, _, _⟩ := s2.openc
      rw [marksEnt_length] at hvr hvw
      rw [hvr] at c1 s1; rw [hvw] at c2 s2
      have S1 := Lib.hid s1; have S2 := Lib.hid s2; have Hnx := Lib.hid hnx
      clear hc hcc hat hxk hmq hmt hmq2 hmt2 hnx hmk s1 s2 hvr hvw
      go_wp2_with fail
      refine (heldEntryS_marks x.r.length (.slice pa x.r.length ca) (mk + 1) _ S1.out (by omega) (by omega) (by omega)).mono ?_; rintro e w' ⟨rfl, rfl⟩
      have q1 : ¬ (mk + 1 + 2 * (x.r.length : Int) < 0) := by omega
      go_wp2_with fail
      refine (heldEntryS_marks x.w.length (.slice pb x.w.length cb) (mk + 1 + 2 * x.r.length) _ S2.out (by omega) (by omega) (by omega)).mono ?_; rintro e w' ⟨rfl, rfl⟩
      have q2 : ¬ (mk + 1 + 2 * (x.r.length : Int) + 2 * (x.w.length : Int) < 0) := by omega
      go_wp2_with fail
      go_round
      case rel => exact ⟨k + 1, by go_num, by rw [Hnx.out], by omega⟩
      case measure => simp [intOf]; omega
    · obtain rfl : k = ts.length := by omega
      clear hmq hmt hc
      go_wp2_with fail
      go_ret
      exact ⟨by first | rfl | (simp; done) | (rw [List.take_length]), rfl⟩
end Go.Proofs.Ytknohbdhbjppjaa
