/- Walks: runs in an order, both sides. Plain laws: runs in an order that fits are serial runs. -/
import Derived.Test.YtkboefmkfpnpjaaGCflTop27
import Derived.Test.YtkboefmkfpnpjaaGCflTop17
import Derived.Test.YtkboefmkfpnpjaaGCflTop09
import Derived.Test.YtkboefmkfpnpjaaGCflTop12
import Derived.Test.YtkboefmkfpnpjaaGCflTop23
import Derived.Test.YtkboefmkfpnpjaaGCflTop22
set_option linter.unusedSimpArgs false
set_option linter.unusedVariables false
namespace Go.Proofs.Ytkboefmkfpnpjaa
open Go Go.RowKit Go.Proofs

def nthA (l : List Actn) (n : Int) : Actn := l.getD n.toNat ⟨1, 0, 0, 0⟩
def ordL (l : List Actn) (o : List Int) : List Actn := o.map (nthA l)
/-- Elements put at their places, one after the other. -/
def effZ {α : Type} (acc : List α) (Z : List (Int × α)) : List α := Z.foldl (fun a p => a.set p.1.toNat p.2) acc
theorem effZ_append {α : Type} (acc : List α) (Z : List (Int × α)) (p : Int × α) : effZ acc (Z ++ [p]) = (effZ acc Z).set p.1.toNat p.2 := by simp [effZ]
theorem effZ_len {α : Type} : ∀ (Z : List (Int × α)) (acc : List α), (effZ acc Z).length = acc.length
  | [], _ => rfl
  | p :: Z, acc => by
    show (effZ (acc.set p.1.toNat p.2) Z).length = _
    rw [effZ_len Z, List.length_set]
theorem effZ_map {α β : Type} (f : α → β) : ∀ (Z : List (Int × α)) (acc : List α), (effZ acc Z).map f = effZ (acc.map f) (Z.map fun p => (p.1, f p.2))
  | [], _ => rfl
  | p :: Z, acc => by
    show (effZ (acc.set p.1.toNat p.2) Z).map f = effZ ((acc.map f).set p.1.toNat (f p.2)) _
    rw [effZ_map f Z, List.map_set]
def zeroTE : TE := ⟨false, .slice none 0 0, .slice none 0 0, [], []⟩
def zeroEff : Eff := ⟨false, [], []⟩
def roOk (s : List Ent) (l : List Actn) (o : List Int) : Bool := entsOk 1 s && ordOk l o
def roP (s : List Ent) (l : List Actn) (o : List Int) : List Int × List Eff := runAll (valsOf s) (ordL l o)
def roE (s : List Ent) (l : List Actn) (o : List Int) : List Eff := effZ (List.replicate l.length zeroEff) (o.zip (roP s l o).2)
def roS (s : List Ent) (l : List Actn) (o : List Int) : List Ent := if roOk s l o = true then storeOf (roP s l o).1 else []
def roEs (s : List Ent) (l : List Actn) (o : List Int) : List Eff := if roOk s l o = true then roE s l o else []
theorem ordOk_parts {l : List Actn} {o : List Int} (h : ordOk l o = true) : actsOk l = true ∧ o.length = l.length ∧ ∀ (k : Nat) n, o[k]? = some n → 0 ≤ n ∧ n < l.length := by
  simp only [ordOk, Bool.and_eq_true, decide_eq_true_eq] at h
  exact ⟨h.1, h.2.1, fun k n hn => ordAt_in h.2.2 (List.getElem?_eq_some_iff.1 hn).1 hn⟩
theorem ordL_get {l : List Actn} {o : List Int} {k : Nat} {n : Int} {x : Actn} (hn : o[k]? = some n) (hx : l[n.toNat]? = some x) : (ordL l o)[k]? = some x := by
  simp [ordL, hn, nthA, List.getD, hx]
theorem ordL_ok {l : List Actn} {o : List Int} (h : ordOk l o = true) : ∀ x ∈ ordL l o, x.ok = true := by
  intro x hx
  obtain ⟨n, hn, rfl⟩ := List.mem_map.1 hx
  obtain ⟨k, hk⟩ := List.getElem?_of_mem hn
  obtain ⟨h1, _, h3⟩ := ordOk_parts h
  obtain ⟨a, b⟩ := h3 k n hk
  obtain ⟨y, hy⟩ := getElem?_some_of_lt (l := l) (k := n.toNat) (by omega)
  have : nthA l n = y := by simp [nthA, List.getD, hy]
  rw [this]; exact actsOk_at h1 hy
theorem ordL_len (l : List Actn) (o : List Int) : (ordL l o).length = o.length := by simp [ordL]
theorem flatMap_setAll {α : Type} {enc : α → List Value} {sz : Nat} (he : ∀ x, (enc x).length = sz) {l : List α} {k : Nat} (hk : k < l.length) (x : α) : (l.set k x).flatMap enc = setAll (l.flatMap enc) (k * sz) (enc x) := by
  have hl := flatMap_length he l
  have hfit : k * sz + sz ≤ l.length * sz := by rw [← Nat.succ_mul]; exact Nat.mul_le_mul_right _ hk
  apply List.ext_getElem?
  intro j
  rw [setAll_get _ _ _ _ (by rw [he, hl]; exact hfit)]
  by_cases hj : j < l.length * sz
  · have s0 : 0 < sz := by
      rcases Nat.eq_zero_or_pos sz with h | h
      · subst h; simp at hj
      · exact h
    have hq : j / sz < l.length := Nat.div_lt_of_lt_mul (by rwa [Nat.mul_comm])
    have hm : j % sz < sz := Nat.mod_lt _ s0
    have hd := Nat.div_add_mod' j sz
    by_cases hjk : j / sz = k
    · have hx : (l.set k x)[k]? = some x := by rw [List.getElem?_set_self hk]
      obtain ⟨u, hu⟩ := getElem?_some_of_lt (l := enc x) (k := j % sz) (by rw [he]; exact hm)
      have := flatMap_get he hx hu
      rw [← hjk, hd] at this
      rw [hjk] at this hd
      rw [this, if_pos (by rw [he]; omega), show j - k * sz = j % sz from by omega, hu]
    · obtain ⟨y, hy⟩ := getElem?_some_of_lt hq
      have hy2 : (l.set k x)[j / sz]? = some y := by rw [List.getElem?_set_ne (Ne.symm hjk)]; exact hy
      obtain ⟨u, hu⟩ := getElem?_some_of_lt (l := enc y) (k := j % sz) (by rw [he]; exact hm)
      have h1 := flatMap_get he hy2 hu
      have h2 := flatMap_get he hy hu
      rw [hd] at h1 h2
      rw [h1, h2, if_neg]
      rw [he]
      intro ⟨a, b⟩
      have := (blk_div s0 a b)
      exact hjk this
  · rw [List.getElem?_eq_none (by rw [flatMap_length he]; simpa using Nat.le_of_not_lt hj), if_neg (by rw [he]; omega), List.getElem?_eq_none (by rw [hl]; omega)]
where blk_div {sz k j : Nat} (s0 : 0 < sz) (a : k * sz ≤ j) (b : j < k * sz + sz) : j / sz = k := Nat.div_eq_of_lt_le (by rwa [Nat.mul_comm] at a ⊢ <;> exact a) (by rw [Nat.add_mul, Nat.one_mul]; exact b)
theorem Own.ap {α : Type} {enc : α → List Value} {e sz lo : Nat} {w : World} {v : Value} {l : List α} (h : Own enc e sz lo w v l) {g : Nat} (i : Nat) (u : Value) (hap : v.ownBlock = none ∨ v.ownBlock ≠ some g) : Own enc e sz lo (w.setCell ⟨g, i, none⟩ u) v l :=
  Own.kept h (grownBy_set w ⟨g, i, none⟩ u) hap
theorem own_row0 {α : Type} {enc : α → List Value} {e sz lo g : Nat} {W : World} (hrow : W.heap[g]? = some (.cells #[] e (0, 0))) (hlo : lo ≤ g) : Own enc e sz lo W (.slice (some ⟨g, 0, none⟩) 0 0) [] :=
  ⟨by simp, .inr ⟨g, 0, #[], rfl, hlo, hrow, Nat.le_refl _, by decide, by simp, by simp⟩⟩
/-- An effect is put at a place. -/
theorem OE.put {eT eE lo n cap g : Nat} {w : World} {ts : List TE} {k : Nat} {x : TE} (h : OE eT eE lo w (.slice (some ⟨g, 0, none⟩) n cap) ts) (hn : n = ts.length) (hk : k < ts.length) (hr : Own Ent.enc eE 2 lo w x.vr x.r) (ar : Apart x.vr (.slice (some ⟨g, 0, none⟩) n cap)) (hw : Own Ent.enc eE 2 lo w x.vw x.w) (aw : Apart x.vw (.slice (some ⟨g, 0, none⟩) n cap)) :
    OE eT eE lo (((w.setCell ⟨g, k * 3, none⟩ (.bool x.d)).setCell ⟨g, k * 3 + 1, none⟩ x.vr).setCell ⟨g, k * 3 + 2, none⟩ x.vw) (.slice (some ⟨g, 0, none⟩) n cap) (ts.set k x) := by
  subst hn
  have keep : ∀ {v : Value} {l : List Ent}, Own Ent.enc eE 2 lo w v l → Apart v (.slice (some ⟨g, 0, none⟩) ts.length cap) → Own Ent.enc eE 2 lo (((w.setCell ⟨g, k * 3, none⟩ (.bool x.d)).setCell ⟨g, k * 3 + 1, none⟩ x.vr).setCell ⟨g, k * 3 + 2, none⟩ x.vw) v l := fun h a => ((h.ap _ _ a).ap _ _ a).ap _ _ a
  refine ⟨?_, fun y hy => ?_⟩
  · have h1 : w.ownsRow lo eT 3 (.slice (some ⟨g, 0, none⟩) ts.length cap) ts.length (ts.flatMap TE.enc) := h.1
    have h2 := ownsRow_setAll (TE.enc x) (k * 3) h1
    rw [← flatMap_setAll TE.enc_length hk] at h2
    show World.ownsRow _ _ _ _ _ _ _
    rw [List.length_set]
    exact h2
  · rcases List.mem_or_eq_of_mem_set hy with hm | rfl
    · obtain ⟨⟨a1, a2⟩, ⟨a3, a4⟩⟩ := h.2 y hm
      exact ⟨⟨keep a1 a2, a2⟩, ⟨keep a3 a4, a4⟩⟩
    · exact ⟨⟨keep hr ar, ar⟩, ⟨keep hw aw, aw⟩⟩
theorem zeros_flat (n : Nat) : (madeCells #[.bool false, .slice none 0 0, .slice none 0 0] (n * 3)).toList = (List.replicate n zeroTE).flatMap TE.enc := by
  apply List.ext_getElem?
  intro j
  by_cases hj : j < n * 3
  · have hq : j / 3 < n := by omega
    have hx : (List.replicate n zeroTE)[j / 3]? = some zeroTE := by rw [List.getElem?_replicate, if_pos hq]
    obtain ⟨u, hu⟩ := getElem?_some_of_lt (l := TE.enc zeroTE) (k := j % 3) (by rw [TE.enc_length]; omega)
    have := flatMap_get TE.enc_length hx hu
    rw [show j / 3 * 3 + j % 3 = j from by omega] at this
    rw [this, ← hu]
    simp only [madeCells, Array.getElem?_toList]
    rw [Array.getElem?_map, Array.getElem?_range, if_pos hj]
    simp only [Option.map_some]
    rcases (show j % 3 = 0 ∨ j % 3 = 1 ∨ j % 3 = 2 by omega) with h | h | h <;> (rw [show (#[Value.bool false, Value.slice none 0 0, Value.slice none 0 0] : Array Value).size = 3 from rfl, h]; rfl)
  · rw [List.getElem?_eq_none (by simp [madeCells]; omega), List.getElem?_eq_none (by rw [flatMap_length TE.enc_length]; simp; omega)]
theorem infEff : ∃ i, Try.prog.info? 40 = some i ∧ i.zero = some (.agg #[.bool false, .slice none 0 0, .slice none 0 0]) ∧ i.size = 3 ∧ i.bytes = 56 := by
  have h : (Try.prog.info? 40).map (fun i => (i.zero, i.size, i.bytes)) = some (some (.agg #[.bool false, .slice none 0 0, .slice none 0 0]), 3, 56) := by kernel_rfl
  obtain ⟨i0, hi, hz0, hz1, hz2⟩ := info_parts h
  exact ⟨i0, hi, hz0, hz1, hz2⟩
/-- make([]Effect, n). -/
theorem wpList_mkEff {ops : Array Oper} {rest : List Oper} {o : Oper} {a : Act} {w : World} {Q : Exit → Act → World → Prop} (hgd : o.guard = none) (s x : Operand)
    (ho : o.op = .makeSlice 33 s x) (n : Nat) (hs : a.eval s = .int .i64 (n : Int)) (hx : a.eval x = .int .i64 (n : Int)) (hb : n ≤ 1000000)
    (h : ∀ (z1 : Extd w), OE 40 31 w.heap.size z1.val (.slice (some ⟨w.heap.size, 0, none⟩) n n) (List.replicate n zeroTE) → wpList Try.prog ops Q rest (a.put o.dst (.slice (some ⟨w.heap.size, 0, none⟩) n n)) z1.val) : wpList Try.prog ops Q (o :: rest) a w := by
  obtain ⟨i, hi, hz, hsize, hby⟩ := infEff
  refine wpList_make_full w hgd s x 33 ho w.heap.size 40 i _ 3 Try.underlying33 hi hz hsize .i64 .i64 _ _ n hs hx rfl rfl (by rw [hby]; omega) (by unfold maxLen; omega) (Nat.le_refl _) ?_
  intro w1 hown1 hg
  refine h ⟨w1, (Ext.refl w).grown hg (fun k hk => by cases hk)⟩ ⟨?_, fun y hy => ?_⟩
  · show World.ownsRow _ _ _ _ _ _ _
    rw [List.length_replicate, ← zeros_flat]
    exact hown1
  · obtain rfl := (List.mem_replicate.1 hy).2
    exact ⟨⟨Own.nil _ _ _ _ _, Apart.nil _ _ _⟩, ⟨Own.nil _ _ _ _ _, Apart.nil _ _ _⟩⟩
end Go.Proofs.Ytkboefmkfpnpjaa
namespace Go.Proofs.Ytkboefmkfpnpjaa
open Go Go.RowKit Go.Proofs

theorem runAll_append (v : List Int) : ∀ (P Q : List Actn), runAll v (P ++ Q) = ((runAll (runAll v P).1 Q).1, (runAll v P).2 ++ (runAll (runAll v P).1 Q).2) := by
  intro P Q
  have h1 : runAll v (P ++ Q) = Q.foldl runStep (runAll v P) := by unfold runAll; rw [List.foldl_append]
  rw [h1]
  have := foldl_run Q (runAll v P).1 (runAll v P).2
  exact this
theorem nodup_le : ∀ (n : Nat) (L : List Int), L.Nodup → (∀ x ∈ L, 0 ≤ x ∧ x < n) → L.length ≤ n
  | 0, L, _, h => by
    cases L with
    | nil => simp
    | cons x L => have := h x (by simp); omega
  | n + 1, L, hd, h => by
    by_cases hm : (n : Int) ∈ L
    · have h1 := nodup_le n (L.erase (n : Int)) (hd.erase _) fun x hx => by
        have hx2 := (hd.mem_erase_iff).1 hx
        have := h x hx2.2
        have := hx2.1
        omega
      rw [List.length_erase_of_mem hm] at h1
      omega
    · have := nodup_le n L hd fun x hx => by
        have h2 := h x hx
        have : x ≠ n := fun e => hm (e ▸ hx)
        omega
      omega
/-- An order of all numbers in which those in conflict stand in order. -/
structure Ordr (l : List Actn) (o : List Int) : Prop where
  len : o.length = l.length
  nd : o.Nodup
  rng : ∀ n ∈ o, 0 ≤ n ∧ n < l.length
  pair : o.Pairwise fun m n => n < m → conf (nthA l m) (nthA l n) = false
theorem Ordr.of {l : List Actn} {o : List Int} (h : ordOk l o = true) : Ordr l o := by
  obtain ⟨h1, h2, h3⟩ := ordOk_parts h
  simp only [ordOk, Bool.and_eq_true, decide_eq_true_eq] at h
  have hall := h.2.2
  have pr : ∀ (j k : Nat) m n, o[j]? = some m → o[k]? = some n → j < k → m ≠ n ∧ (n < m → conf (nthA l m) (nthA l n) = false) := by
    intro j k m n hm hn hjk
    have hk := upTo_iff.1 hall k (List.getElem?_eq_some_iff.1 hn).1
    rw [ordAt_eq hn, Bool.and_eq_true] at hk
    have hp := upTo_iff.1 hk.2 j hjk
    rw [pairOk_eq hm hn, Bool.and_eq_true, decide_eq_true_eq] at hp
    refine ⟨hp.1, fun hlt => ?_⟩
    have hq := hp.2
    rw [decide_eq_true hlt, Bool.true_and] at hq
    obtain ⟨a0, a1⟩ := h3 j m hm
    obtain ⟨b0, b1⟩ := h3 k n hn
    obtain ⟨x, hx⟩ := getElem?_some_of_lt (l := l) (k := m.toNat) (by omega)
    obtain ⟨y, hy⟩ := getElem?_some_of_lt (l := l) (k := n.toNat) (by omega)
    rw [cfAt_eq hx hy] at hq
    have ex : nthA l m = x := by simp [nthA, List.getD, hx]
    have ey : nthA l n = y := by simp [nthA, List.getD, hy]
    rw [ex, ey]; simpa using hq
  refine ⟨h2, ?_, fun n hn => ?_, ?_⟩
  · rw [List.nodup_iff_pairwise_ne, List.pairwise_iff_getElem]
    intro i j hi hj hij
    exact (pr i j _ _ (List.getElem?_eq_getElem hi) (List.getElem?_eq_getElem hj) hij).1
  · obtain ⟨k, hk⟩ := List.getElem?_of_mem hn
    exact h3 k n hk
  · rw [List.pairwise_iff_getElem]
    intro i j hi hj hij
    exact (pr i j _ _ (List.getElem?_eq_getElem hi) (List.getElem?_eq_getElem hj) hij).2
theorem nthA_left {l : List Actn} {x : Actn} {n : Int} (h0 : 0 ≤ n) (h : n < l.length) : nthA (l ++ [x]) n = nthA l n := by
  unfold nthA
  simp only [List.getD_eq_getElem?_getD]
  rw [List.getElem?_append_left (by omega)]
theorem nthA_last (l : List Actn) (x : Actn) : nthA (l ++ [x]) (l.length : Int) = x := by
  unfold nthA
  simp
theorem ordL_left {l : List Actn} {x : Actn} {o : List Int} (h : ∀ n ∈ o, 0 ≤ n ∧ n < l.length) : ordL (l ++ [x]) o = ordL l o := by
  unfold ordL
  exact List.map_congr_left fun n hn => nthA_left (h n hn).1 (h n hn).2
/-- A run in an order that fits: the serial run's values, and each action's effect. -/
theorem order_serial : ∀ (N : Nat) (l : List Actn) (o : List Int) (v : List Int), l.length = N → (∀ x ∈ l, x.ok = true) → Ordr l o →
    (runAll v (ordL l o)).1 = (runAll v l).1 ∧ ∀ (k : Nat) n, o[k]? = some n → (runAll v (ordL l o)).2[k]? = (runAll v l).2[n.toNat]?
  | 0, l, o, v, hN, hok, h => by
    obtain rfl : l = [] := List.eq_nil_of_length_eq_zero hN
    obtain rfl : o = [] := List.eq_nil_of_length_eq_zero h.len
    exact ⟨rfl, fun k n hn => by simp at hn⟩
  | N + 1, l, o, v, hN, hok, h => by
    obtain ⟨l', x, rfl⟩ : ∃ l' x, l = l' ++ [x] := ⟨l.dropLast, l.getLast (by intro e; subst e; simp at hN), (List.dropLast_concat_getLast _).symm⟩
    have hN' : l'.length = N := by simpa using hN
    have hll : (l' ++ [x]).length = N + 1 := hN
    have hxo := hok x (by simp)
    have hmem : (N : Int) ∈ o := by
      apply Classical.byContradiction
      intro hm
      have := nodup_le N o h.nd fun y hy => by
        have h1 := h.rng y hy
        rw [hll] at h1
        have : y ≠ N := fun e => hm (e ▸ hy)
        omega
      rw [h.len, hll] at this
      omega
    obtain ⟨A, B, rfl⟩ := List.append_of_mem hmem
    have hnd := h.nd
    rw [List.nodup_append] at hnd
    obtain ⟨ndA, ndB', ndAB⟩ := hnd
    rw [List.nodup_cons] at ndB'
    have hA : ∀ n ∈ A, 0 ≤ n ∧ n < l'.length := fun n hn => by
      have h1 := h.rng n (by simp [hn])
      rw [hll] at h1
      have : n ≠ N := ndAB n hn N (by simp)
      omega
    have hB : ∀ n ∈ B, 0 ≤ n ∧ n < l'.length := fun n hn => by
      have h1 := h.rng n (by simp [hn])
      rw [hll] at h1
      have : n ≠ N := fun e => ndB'.1 (e ▸ hn)
      omega
    have hpair := h.pair
    rw [List.pairwise_append] at hpair
    obtain ⟨pA, pB', pAB⟩ := hpair
    rw [List.pairwise_cons] at pB'
    have h' : Ordr l' (A ++ B) := by
      refine ⟨?_, ?_, ?_, ?_⟩
      · have := h.len
        simp only [List.length_append, List.length_cons, List.length_nil] at this ⊢
        omega
      · rw [List.nodup_append]
        exact ⟨ndA, ndB'.2, fun a ha b hb => ndAB a ha b (by simp [hb])⟩
      · intro n hn
        rcases List.mem_append.1 hn with hn | hn
        · exact hA n hn
        · exact hB n hn
      · rw [List.pairwise_append]
        refine ⟨pA.imp_of_mem fun {m n} hm hn hp hlt => ?_, pB'.2.imp_of_mem fun {m n} hm hn hp hlt => ?_, fun m hm n hn hlt => ?_⟩
        · have := hp hlt; rwa [nthA_left (hA m hm).1 (hA m hm).2, nthA_left (hA n hn).1 (hA n hn).2] at this
        · have := hp hlt; rwa [nthA_left (hB m hm).1 (hB m hm).2, nthA_left (hB n hn).1 (hB n hn).2] at this
        · have := pAB m hm n (by simp [hn]) hlt; rwa [nthA_left (hA m hm).1 (hA m hm).2, nthA_left (hB n hn).1 (hB n hn).2] at this
    obtain ⟨i1, i2⟩ := order_serial N l' (A ++ B) v hN' (fun y hy => hok y (by simp [hy])) h'
    have hsplit : ordL (l' ++ [x]) (A ++ (N : Int) :: B) = ordL l' A ++ x :: ordL l' B := by
      have e1 := ordL_left (x := x) hA
      have e2 := ordL_left (x := x) hB
      unfold ordL at *
      rw [List.map_append, List.map_cons, e1, e2]
      congr 2
      rw [← hN']; exact nthA_last l' x
    have hjoin : ordL l' (A ++ B) = ordL l' A ++ ordL l' B := by unfold ordL; rw [List.map_append]
    rw [hjoin, runAll_append] at i1 i2
    rw [hsplit, runAll_append, runAll_cons, runAll_append v l' [x], runAll_cons]
    generalize hP : runAll v (ordL l' A) = PP at *
    have hlA : PP.2.length = A.length := by rw [← hP, runAll_len]; simp [ordL]
    obtain ⟨m1, m2, m3⟩ := run_move hxo (ordL l' B) PP.1 (by
      intro y hy
      obtain ⟨n, hn, rfl⟩ := List.mem_map.1 hy
      obtain ⟨n0, n1⟩ := hB n hn
      obtain ⟨z, hz⟩ := getElem?_some_of_lt (l := l') (k := n.toNat) (by omega)
      have ez : nthA l' n = z := by simp [nthA, List.getD, hz]
      refine ⟨by rw [ez]; exact hok z (by simp [List.mem_of_getElem? hz]), ?_⟩
      have := pB'.1 n hn (by omega)
      rwa [show (N : Int) = (l'.length : Int) from by omega, nthA_last, nthA_left n0 n1] at this)
    dsimp only at i1 i2 ⊢
    have hlen' : (runAll v l').2.length = l'.length := runAll_len _ _
    refine ⟨?_, fun k n hn => ?_⟩
    · rw [m3, i1, ← m2, i1]; rfl
    · by_cases hk : k < A.length
      · rw [List.getElem?_append_left hk] at hn
        have hn2 := hA n (List.mem_of_getElem? hn)
        have := i2 k n (by rw [List.getElem?_append_left hk]; exact hn)
        rw [List.getElem?_append_left (by omega)] at this
        rw [List.getElem?_append_left (by omega), this, List.getElem?_append_left (by omega)]
      · rw [List.getElem?_append_right (by omega)] at hn
        rw [List.getElem?_append_right (by omega), hlA]
        rcases hj : k - A.length with _ | j
        · rw [hj] at hn
          simp at hn
          subst hn
          rw [List.getElem?_append_right (by omega), hlen', show (N : Int).toNat - l'.length = 0 from by omega]
          simp only [List.getElem?_cons_zero]
          rw [← m2, i1]
        · rw [hj] at hn
          simp at hn
          have hn2 := hB n (List.mem_of_getElem? hn)
          have := i2 (A.length + j) n (by rw [List.getElem?_append_right (by omega), Nat.add_sub_cancel_left]; exact hn)
          rw [List.getElem?_append_right (by omega), hlA, Nat.add_sub_cancel_left] at this
          rw [List.getElem?_cons_succ, m1, this, List.getElem?_append_left (by omega)]
theorem effZ_get {α : Type} {E : List α} {i : Nat} : ∀ (Z : List (Int × α)) (acc : List α), (∀ p ∈ Z, p.1.toNat = i → E[i]? = some p.2) → i < acc.length → (∃ p ∈ Z, p.1.toNat = i) ∨ acc[i]? = E[i]? → (effZ acc Z)[i]? = E[i]?
  | [], acc, _, _, h => by
    rcases h with ⟨p, hp, _⟩ | h
    · cases hp
    · exact h
  | p :: Z, acc, hE, hi, h => by
    show (effZ (acc.set p.1.toNat p.2) Z)[i]? = _
    refine effZ_get Z _ (fun q hq => hE q (by simp [hq])) (by simpa using hi) ?_
    by_cases hp : p.1.toNat = i
    · right
      rw [hE p (by simp) hp, hp, List.getElem?_set_self hi]
    · rcases h with ⟨q, hq, hqi⟩ | h
      · rcases List.mem_cons.1 hq with rfl | hq
        · exact absurd hqi hp
        · exact .inl ⟨q, hq, hqi⟩
      · right; rw [List.getElem?_set_ne hp]; exact h
theorem Ordr.all {l : List Actn} {o : List Int} (h : Ordr l o) {i : Nat} (hi : i < l.length) : (i : Int) ∈ o := by
  apply Classical.byContradiction
  intro hm
  have := nodup_le l.length ((i : Int) :: o) (List.nodup_cons.2 ⟨hm, h.nd⟩) fun y hy => by
    rcases List.mem_cons.1 hy with rfl | hy
    · omega
    · exact h.rng y hy
  rw [List.length_cons, h.len] at this
  omega
/-- FnRunOrder's law. -/
theorem ro_serial {s : List Ent} {l : List Actn} {o : List Int} (h : roOk s l o = true) : roS s l o = storeOf (runAll (valsOf s) l).1 ∧ roEs s l o = (runAll (valsOf s) l).2 := by
  have h2 := h
  simp only [roOk, Bool.and_eq_true] at h2
  have hO := Ordr.of h2.2
  obtain ⟨ha, _, _⟩ := ordOk_parts h2.2
  have hok : ∀ x ∈ l, x.ok = true := fun x hx => by obtain ⟨i, hi⟩ := List.getElem?_of_mem hx; exact actsOk_at ha hi
  obtain ⟨i1, i2⟩ := order_serial l.length l o (valsOf s) rfl hok hO
  unfold roS roEs
  rw [if_pos h, if_pos h]
  refine ⟨by unfold roP; rw [i1], ?_⟩
  unfold roE roP
  have hl1 : (runAll (valsOf s) (ordL l o)).2.length = o.length := by rw [runAll_len, ordL_len]
  have hl2 : (runAll (valsOf s) l).2.length = l.length := runAll_len _ _
  generalize (runAll (valsOf s) (ordL l o)).2 = E' at *
  generalize (runAll (valsOf s) l).2 = E at *
  apply List.ext_getElem?
  intro i
  by_cases hi : i < l.length
  · refine effZ_get _ _ (fun p hp hpi => ?_) (by simpa using hi) (.inl ?_)
    · obtain ⟨k, hk⟩ := List.getElem?_of_mem hp
      rw [List.getElem?_zip_eq_some] at hk
      rw [← hpi, ← i2 k p.1 hk.1, hk.2]
    · obtain ⟨k, hk⟩ := List.getElem?_of_mem (hO.all hi)
      obtain ⟨e, he⟩ := getElem?_some_of_lt (l := E') (k := k) (by rw [hl1]; exact (List.getElem?_eq_some_iff.1 hk).1)
      refine ⟨((i : Int), e), List.mem_of_getElem? (i := k) ?_, by simp⟩
      rw [List.getElem?_zip_eq_some]
      exact ⟨hk, he⟩
  · rw [List.getElem?_eq_none (by rw [effZ_len]; simpa using Nat.le_of_not_lt hi), List.getElem?_eq_none (by rw [hl2]; omega)]
end Go.Proofs.Ytkboefmkfpnpjaa
