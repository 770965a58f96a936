/- Walks: runs in an order, both sides. Plain ground: an effect in a box of its own beside the reader, while it is drawn. -/
import Derived.Test.YtkboefmkfpnpjaaGEsLTop20
import Derived.Test.YtkboefmkfpnpjaaGEsLTop18
import Derived.Test.YtkboefmkfpnpjaaGEsLTop09
import Derived.Test.YtkboefmkfpnpjaaGEsLTop21
import Derived.Test.YtkboefmkfpnpjaaGEsLTop16
import Derived.Test.YtkboefmkfpnpjaaGEsLTop12
set_option linter.unusedSimpArgs false
set_option linter.unusedVariables false
namespace Go.Proofs.Ytkboefmkfpnpjaa
open Go Go.RowKit Go.Proofs

def nthA (l : List Actn) (n : Int) : Actn := l.getD n.toNat ⟨1, 0, 0, 0⟩
def ordL (l : List Actn) (o : List Int) : List Actn := o.map (nthA l)
/-- Elements put at their places, one after the other. -/
def effZ {α : Type} (acc : List α) (Z : List (Int × α)) : List α := Z.foldl (fun a p => a.set p.1.toNat p.2) acc
theorem effZ_append {α : Type} (acc : List α) (Z : List (Int × α)) (p : Int × α) : effZ acc (Z ++ [p]) = (effZ acc Z).set p.1.toNat p.2 := by simp [effZ]
theorem effZ_len {α : Type} : ∀ (Z : List (Int × α)) (acc : List α), (effZ acc Z).length = acc.length
  | [], _ => rfl
  | p :: Z, acc => by
    show (effZ (acc.set p.1.toNat p.2) Z).length = _
    rw [effZ_len Z, List.length_set]
theorem effZ_map {α β : Type} (f : α → β) : ∀ (Z : List (Int × α)) (acc : List α), (effZ acc Z).map f = effZ (acc.map f) (Z.map fun p => (p.1, f p.2))
  | [], _ => rfl
  | p :: Z, acc => by
    show (effZ (acc.set p.1.toNat p.2) Z).map f = effZ ((acc.map f).set p.1.toNat (f p.2)) _
    rw [effZ_map f Z, List.map_set]
def zeroTE : TE := ⟨false, .slice none 0 0, .slice none 0 0, [], []⟩
def zeroEff : Eff := ⟨false, [], []⟩
def roOk (s : List Ent) (l : List Actn) (o : List Int) : Bool := entsOk 1 s && ordOk l o
def roP (s : List Ent) (l : List Actn) (o : List Int) : List Int × List Eff := runAll (valsOf s) (ordL l o)
def roE (s : List Ent) (l : List Actn) (o : List Int) : List Eff := effZ (List.replicate l.length zeroEff) (o.zip (roP s l o).2)
def roS (s : List Ent) (l : List Actn) (o : List Int) : List Ent := if roOk s l o = true then storeOf (roP s l o).1 else []
def roEs (s : List Ent) (l : List Actn) (o : List Int) : List Eff := if roOk s l o = true then roE s l o else []
theorem ordOk_parts {l : List Actn} {o : List Int} (h : ordOk l o = true) : actsOk l = true ∧ o.length = l.length ∧ ∀ (k : Nat) n, o[k]? = some n → 0 ≤ n ∧ n < l.length := by
  simp only [ordOk, Bool.and_eq_true, decide_eq_true_eq] at h
  exact ⟨h.1, h.2.1, fun k n hn => ordAt_in h.2.2 (List.getElem?_eq_some_iff.1 hn).1 hn⟩
theorem ordL_get {l : List Actn} {o : List Int} {k : Nat} {n : Int} {x : Actn} (hn : o[k]? = some n) (hx : l[n.toNat]? = some x) : (ordL l o)[k]? = some x := by
  simp [ordL, hn, nthA, List.getD, hx]
theorem ordL_ok {l : List Actn} {o : List Int} (h : ordOk l o = true) : ∀ x ∈ ordL l o, x.ok = true := by
  intro x hx
  obtain ⟨n, hn, rfl⟩ := List.mem_map.1 hx
  obtain ⟨k, hk⟩ := List.getElem?_of_mem hn
  obtain ⟨h1, _, h3⟩ := ordOk_parts h
  obtain ⟨a, b⟩ := h3 k n hk
  obtain ⟨y, hy⟩ := getElem?_some_of_lt (l := l) (k := n.toNat) (by omega)
  have : nthA l n = y := by simp [nthA, List.getD, hy]
  rw [this]; exact actsOk_at h1 hy
theorem ordL_len (l : List Actn) (o : List Int) : (ordL l o).length = o.length := by simp [ordL]
theorem flatMap_setAll {α : Type} {enc : α → List Value} {sz : Nat} (he : ∀ x, (enc x).length = sz) {l : List α} {k : Nat} (hk : k < l.length) (x : α) : (l.set k x).flatMap enc = setAll (l.flatMap enc) (k * sz) (enc x) := by
  have hl := flatMap_length he l
  have hfit : k * sz + sz ≤ l.length * sz := by rw [← Nat.succ_mul]; exact Nat.mul_le_mul_right _ hk
  apply List.ext_getElem?
  intro j
  rw [setAll_get _ _ _ _ (by rw [he, hl]; exact hfit)]
  by_cases hj : j < l.length * sz
  · have s0 : 0 < sz := by
      rcases Nat.eq_zero_or_pos sz with h | h
      · subst h; simp at hj
      · exact h
    have hq : j / sz < l.length := Nat.div_lt_of_lt_mul (by rwa [Nat.mul_comm])
    have hm : j % sz < sz := Nat.mod_lt _ s0
    have hd := Nat.div_add_mod' j sz
    by_cases hjk : j / sz = k
    · have hx : (l.set k x)[k]? = some x := by rw [List.getElem?_set_self hk]
      obtain ⟨u, hu⟩ := getElem?_some_of_lt (l := enc x) (k := j % sz) (by rw [he]; exact hm)
      have := flatMap_get he hx hu
      rw [← hjk, hd] at this
      rw [hjk] at this hd
      rw [this, if_pos (by rw [he]; omega), show j - k * sz = j % sz from by omega, hu]
    · obtain ⟨y, hy⟩ := getElem?_some_of_lt hq
      have hy2 : (l.set k x)[j / sz]? = some y := by rw [List.getElem?_set_ne (Ne.symm hjk)]; exact hy
      obtain ⟨u, hu⟩ := getElem?_some_of_lt (l := enc y) (k := j % sz) (by rw [he]; exact hm)
      have h1 := flatMap_get he hy2 hu
      have h2 := flatMap_get he hy hu
      rw [hd] at h1 h2
      rw [h1, h2, if_neg]
      rw [he]
      intro ⟨a, b⟩
      have := (blk_div s0 a b)
      exact hjk this
  · rw [List.getElem?_eq_none (by rw [flatMap_length he]; simpa using Nat.le_of_not_lt hj), if_neg (by rw [he]; omega), List.getElem?_eq_none (by rw [hl]; omega)]
where blk_div {sz k j : Nat} (s0 : 0 < sz) (a : k * sz ≤ j) (b : j < k * sz + sz) : j / sz = k := Nat.div_eq_of_lt_le (by rwa [Nat.mul_comm] at a ⊢ <;> exact a) (by rw [Nat.add_mul, Nat.one_mul]; exact b)
theorem Own.ap {α : Type} {enc : α → List Value} {e sz lo : Nat} {w : World} {v : Value} {l : List α} (h : Own enc e sz lo w v l) {g : Nat} (i : Nat) (u : Value) (hap : v.ownBlock = none ∨ v.ownBlock ≠ some g) : Own enc e sz lo (w.setCell ⟨g, i, none⟩ u) v l :=
  Own.kept h (grownBy_set w ⟨g, i, none⟩ u) hap
theorem own_row0 {α : Type} {enc : α → List Value} {e sz lo g : Nat} {W : World} (hrow : W.heap[g]? = some (.cells #[] e (0, 0))) (hlo : lo ≤ g) : Own enc e sz lo W (.slice (some ⟨g, 0, none⟩) 0 0) [] :=
  ⟨by simp, .inr ⟨g, 0, #[], rfl, hlo, hrow, Nat.le_refl _, by decide, by simp, by simp⟩⟩
/-- An effect is put at a place. -/
theorem OE.put {eT eE lo n cap g : Nat} {w : World} {ts : List TE} {k : Nat} {x : TE} (h : OE eT eE lo w (.slice (some ⟨g, 0, none⟩) n cap) ts) (hn : n = ts.length) (hk : k < ts.length) (hr : Own Ent.enc eE 2 lo w x.vr x.r) (ar : Apart x.vr (.slice (some ⟨g, 0, none⟩) n cap)) (hw : Own Ent.enc eE 2 lo w x.vw x.w) (aw : Apart x.vw (.slice (some ⟨g, 0, none⟩) n cap)) :
    OE eT eE lo (((w.setCell ⟨g, k * 3, none⟩ (.bool x.d)).setCell ⟨g, k * 3 + 1, none⟩ x.vr).setCell ⟨g, k * 3 + 2, none⟩ x.vw) (.slice (some ⟨g, 0, none⟩) n cap) (ts.set k x) := by
  subst hn
  have keep : ∀ {v : Value} {l : List Ent}, Own Ent.enc eE 2 lo w v l → Apart v (.slice (some ⟨g, 0, none⟩) ts.length cap) → Own Ent.enc eE 2 lo (((w.setCell ⟨g, k * 3, none⟩ (.bool x.d)).setCell ⟨g, k * 3 + 1, none⟩ x.vr).setCell ⟨g, k * 3 + 2, none⟩ x.vw) v l := fun h a => ((h.ap _ _ a).ap _ _ a).ap _ _ a
  refine ⟨?_, fun y hy => ?_⟩
  · have h1 : w.ownsRow lo eT 3 (.slice (some ⟨g, 0, none⟩) ts.length cap) ts.length (ts.flatMap TE.enc) := h.1
    have h2 := ownsRow_setAll (TE.enc x) (k * 3) h1
    rw [← flatMap_setAll TE.enc_length hk] at h2
    show World.ownsRow _ _ _ _ _ _ _
    rw [List.length_set]
    exact h2
  · rcases List.mem_or_eq_of_mem_set hy with hm | rfl
    · obtain ⟨⟨a1, a2⟩, ⟨a3, a4⟩⟩ := h.2 y hm
      exact ⟨⟨keep a1 a2, a2⟩, ⟨keep a3 a4, a4⟩⟩
    · exact ⟨⟨keep hr ar, ar⟩, ⟨keep hw aw, aw⟩⟩
theorem zeros_flat (n : Nat) : (madeCells #[.bool false, .slice none 0 0, .slice none 0 0] (n * 3)).toList = (List.replicate n zeroTE).flatMap TE.enc := by
  apply List.ext_getElem?
  intro j
  by_cases hj : j < n * 3
  · have hq : j / 3 < n := by omega
    have hx : (List.replicate n zeroTE)[j / 3]? = some zeroTE := by rw [List.getElem?_replicate, if_pos hq]
    obtain ⟨u, hu⟩ := getElem?_some_of_lt (l := TE.enc zeroTE) (k := j % 3) (by rw [TE.enc_length]; omega)
    have := flatMap_get TE.enc_length hx hu
    rw [show j / 3 * 3 + j % 3 = j from by omega] at this
    rw [this, ← hu]
    simp only [madeCells, Array.getElem?_toList]
    rw [Array.getElem?_map, Array.getElem?_range, if_pos hj]
    simp only [Option.map_some]
    rcases (show j % 3 = 0 ∨ j % 3 = 1 ∨ j % 3 = 2 by omega) with h | h | h <;> (rw [show (#[Value.bool false, Value.slice none 0 0, Value.slice none 0 0] : Array Value).size = 3 from rfl, h]; rfl)
  · rw [List.getElem?_eq_none (by simp [madeCells]; omega), List.getElem?_eq_none (by rw [flatMap_length TE.enc_length]; simp; omega)]
theorem infEff : ∃ i, Try.prog.info? 40 = some i ∧ i.zero = some (.agg #[.bool false, .slice none 0 0, .slice none 0 0]) ∧ i.size = 3 ∧ i.bytes = 56 := by
  have h : (Try.prog.info? 40).map (fun i => (i.zero, i.size, i.bytes)) = some (some (.agg #[.bool false, .slice none 0 0, .slice none 0 0]), 3, 56) := by kernel_rfl
  obtain ⟨i0, hi, hz0, hz1, hz2⟩ := info_parts h
  exact ⟨i0, hi, hz0, hz1, hz2⟩
/-- make([]Effect, n). -/
theorem wpList_mkEff {ops : Array Oper} {rest : List Oper} {o : Oper} {a : Act} {w : World} {Q : Exit → Act → World → Prop} (hgd : o.guard = none) (s x : Operand)
    (ho : o.op = .makeSlice 33 s x) (n : Nat) (hs : a.eval s = .int .i64 (n : Int)) (hx : a.eval x = .int .i64 (n : Int)) (hb : n ≤ 1000000)
    (h : ∀ (z1 : Extd w), OE 40 31 w.heap.size z1.val (.slice (some ⟨w.heap.size, 0, none⟩) n n) (List.replicate n zeroTE) → wpList Try.prog ops Q rest (a.put o.dst (.slice (some ⟨w.heap.size, 0, none⟩) n n)) z1.val) : wpList Try.prog ops Q (o :: rest) a w := by
  obtain ⟨i, hi, hz, hsize, hby⟩ := infEff
  refine wpList_make_full w hgd s x 33 ho w.heap.size 40 i _ 3 Try.underlying33 hi hz hsize .i64 .i64 _ _ n hs hx rfl rfl (by rw [hby]; omega) (by unfold maxLen; omega) (Nat.le_refl _) ?_
  intro w1 hown1 hg
  refine h ⟨w1, (Ext.refl w).grown hg (fun k hk => by cases hk)⟩ ⟨?_, fun y hy => ?_⟩
  · show World.ownsRow _ _ _ _ _ _ _
    rw [List.length_replicate, ← zeros_flat]
    exact hown1
  · obtain rfl := (List.mem_replicate.1 hy).2
    exact ⟨⟨Own.nil _ _ _ _ _, Apart.nil _ _ _⟩, ⟨Own.nil _ _ _ _ _, Apart.nil _ _ _⟩⟩
end Go.Proofs.Ytkboefmkfpnpjaa
namespace Go.Proofs.Ytkboefmkfpnpjaa
open Go Go.RowKit Go.Proofs

structure FX (T eE rb G lo : Nat) (w wr : World) (d : Bool) (vr vw : Value) (r u : List Ent) : Prop where
  gb : w.grownBy wr (some rb)
  box : wr.heap[G]? = some (.cells #[.bool d, vr, vw] T (0, 0))
  res : wr.heap[w.heap.size]? = some (.cells #[.bool false, .slice none 0 0, .slice none 0 0] T (0, 0))
  orr : Own Ent.enc eE 2 lo wr vr r
  oww : Own Ent.enc eE 2 lo wr vw u
  ap : Apart vr vw
  offr : vr.ownBlock ≠ some G
  offw : vw.ownBlock ≠ some G
  hrb : rb < w.heap.size
  hG : w.heap.size < G
  hlo : w.heap.size < lo
section
variable {T eE rb G lo : Nat} {w wr w9 : World} {d : Bool} {vr vw v9 : Value} {r u u9 : List Ent}
theorem FX.lt (h : FX T eE rb G lo w wr d vr vw r u) : G < wr.heap.size := (Array.getElem?_eq_some_iff.1 h.box).1
theorem FX.upR (h : FX T eE rb G lo w wr d vr vw r u) (z : ExtR rb wr) : FX T eE rb G lo w z.val d vr vw r u := by
  have h1 := h.hrb; have h2 := h.hG; have h3 := h.hlo
  exact ⟨grownBy_trans h.gb z.grown, (z.block h.lt (by omega)).trans h.box, (z.block (Array.getElem?_eq_some_iff.1 h.res).1 (by omega)).trans h.res, h.orr.upR (by omega) z, h.oww.upR (by omega) z, h.ap, h.offr, h.offw, h1, h2, h3⟩
theorem FX.up (h : FX T eE rb G lo w wr d vr vw r u) (hE : Ext wr w9) : FX T eE rb G lo w w9 d vr vw r u :=
  ⟨grownBy_trans h.gb (grownBy_ext hE), (hE.block h.lt).trans h.box, (hE.block (Array.getElem?_eq_some_iff.1 h.res).1).trans h.res, h.orr.up hE, h.oww.up hE, h.ap, h.offr, h.offw, h.hrb, h.hG, h.hlo⟩
theorem FX.alloc (h : FX T eE rb G lo w wr d vr vw r u) (o : Obj) : FX T eE rb G lo w (wr.alloc o) d vr vw r u := h.up ((Ext.refl wr).alloc o)
theorem FX.drew (h : FX T eE rb G lo w wr d vr vw r u) : FX T eE rb G lo w wr.drew d vr vw r u := h.up (Ext.refl wr).drew
theorem own_ne {e sz : Nat} {α : Type} {enc : α → List Value} {l : List α} {v : Value} {n : Nat} (h : Own enc e sz lo wr v l) (hn : n < lo) : some n ≠ v.ownBlock := by
  intro e
  have := (World.ownsRow.lt h n e.symm).1
  omega
theorem FX.kept (h : FX T eE rb G lo w wr d vr vw r u) {v : Value} {l : List Ent} (ho : Own Ent.enc eE 2 lo wr v l) (hv : v.ownBlock ≠ some G) (g9 : wr.grownBy w9 v.ownBlock) :
    w.grownBy w9 (some rb) ∧ w9.heap[G]? = some (.cells #[.bool d, vr, vw] T (0, 0)) ∧ w9.heap[w.heap.size]? = some (.cells #[.bool false, .slice none 0 0, .slice none 0 0] T (0, 0)) := by
  have h1 := h.hrb; have h2 := h.hG; have h3 := h.hlo
  refine ⟨⟨g9.os.trans h.gb.os, g9.tape.trans h.gb.tape, g9.output.trans h.gb.output, Nat.le_trans h.gb.size g9.size, fun n hn hne => ?_⟩, ?_, ?_⟩
  · exact (g9.block n (Nat.lt_of_lt_of_le hn h.gb.size) (own_ne ho (by omega))).trans (h.gb.block n hn hne)
  · exact (g9.block G h.lt (fun e => hv e.symm)).trans h.box
  · exact (g9.block _ (Array.getElem?_eq_some_iff.1 h.res).1 (own_ne ho (by omega))).trans h.res
theorem FX.addW (h : FX T eE rb G lo w wr d vr vw r u) (g9 : wr.grownBy w9 vw.ownBlock) (o9 : Own Ent.enc eE 2 lo w9 v9 u9) (b9 : v9.ownBlock = vw.ownBlock ∨ v9.ownBlock = some wr.heap.size) :
    FX T eE rb G lo w (w9.setCell ⟨G, 2, none⟩ v9) d vr v9 r u9 := by
  obtain ⟨k1, k2, k3⟩ := h.kept h.oww h.offw g9
  have h1 := h.hrb; have h2 := h.hG; have h3 := h.hlo; have h4 := h.lt
  have hoff : v9.ownBlock ≠ some G := by
    rcases b9 with e | e
    · rw [e]; exact h.offw
    · rw [e]; intro e2; cases e2; omega
  refine ⟨GB.setNew k1 (by omega) _ _, ?_, (Below.heap_setCell _ _ _ _ (show w.heap.size ≠ G by omega)).trans k3, (h.orr.keep g9 h.ap).ap _ _ (.inr h.offr), o9.ap _ _ (.inr hoff), Apart.grown h.orr h.ap (Nat.le_refl _) b9, h.offr, hoff, h1, h2, h3⟩
  rw [heap_setCell_same _ _ _ _ _ _ k2]; rfl
theorem FX.addR (h : FX T eE rb G lo w wr d vr vw r u) (g9 : wr.grownBy w9 vr.ownBlock) (o9 : Own Ent.enc eE 2 lo w9 v9 u9) (b9 : v9.ownBlock = vr.ownBlock ∨ v9.ownBlock = some wr.heap.size) :
    FX T eE rb G lo w (w9.setCell ⟨G, 1, none⟩ v9) d v9 vw u9 u := by
  obtain ⟨k1, k2, k3⟩ := h.kept h.orr h.offr g9
  have h1 := h.hrb; have h2 := h.hG; have h3 := h.hlo; have h4 := h.lt
  have hoff : v9.ownBlock ≠ some G := by
    rcases b9 with e | e
    · rw [e]; exact h.offr
    · rw [e]; intro e2; cases e2; omega
  refine ⟨GB.setNew k1 (by omega) _ _, ?_, (Below.heap_setCell _ _ _ _ (show w.heap.size ≠ G by omega)).trans k3, o9.ap _ _ (.inr hoff), (h.oww.keep g9 h.ap.symm).ap _ _ (.inr h.offw), (Apart.grown h.oww h.ap.symm (Nat.le_refl _) b9).symm, hoff, h.offw, h1, h2, h3⟩
  rw [heap_setCell_same _ _ _ _ _ _ k2]; rfl
theorem FX.setD (h : FX T eE rb G lo w wr d vr vw r u) (d' : Bool) : FX T eE rb G lo w (wr.setCell ⟨G, 0, none⟩ (.bool d')) d' vr vw r u := by
  have h1 := h.hrb; have h2 := h.hG; have h3 := h.hlo
  refine ⟨GB.setNew h.gb (by omega) _ _, ?_, (Below.heap_setCell _ _ _ _ (show w.heap.size ≠ G by omega)).trans h.res, h.orr.ap _ _ (.inr h.offr), h.oww.ap _ _ (.inr h.offw), h.ap, h.offr, h.offw, h1, h2, h3⟩
  rw [heap_setCell_same _ _ _ _ _ _ h.box]; rfl
theorem FX.rd {w0 : World} {lim : Int} {v : Value} {l : List Ent} (h : FX T eE rb G lo w wr d vr vw r u) (hR : Rd w0 wr rb lim) (ho : Own Ent.enc eE 2 lo wr v l) (g9 : wr.grownBy w9 v.ownBlock) (hE : Ext w0 w9) (i : Nat) (x : Value) : Rd w0 (w9.setCell ⟨G, i, none⟩ x) rb lim := by
  have h1 := h.hrb; have h2 := h.hG; have h3 := h.hlo
  have h4 := hR.old
  exact Rd.set (hR.grown hE (g9.block rb hR.lt (own_ne ho (by omega)))) _ _ (by omega) (by omega)
end
end Go.Proofs.Ytkboefmkfpnpjaa
