/- Plain laws: stores of trees grow block by block; right blocks stand behind right ones. Plain laws: layers over a store: what is written in them, what is seen in them. Plain ground: slices of layers in memory. -/
import Derived.Test.YteiemjebdhmnaaaGreatGLxTop25
set_option linter.unusedSimpArgs false
set_option linter.unusedVariables false
namespace Go.Proofs.YteiemjebdhmnaaaGreat
open Go Go.RowKit Go.Proofs

theorem climb_fuel {t : Tree} (h : t.ok = true) : ∀ (f f' n : Nat), n < f → n < f' → n < t.bs.length → climb t.pr f n = climb t.pr f' n
  | 0, _, n, hf, _, _ => by omega
  | _ + 1, 0, n, _, hf, _ => by omega
  | f + 1, f' + 1, n, h1, h2, hn => by
    obtain ⟨x, hx⟩ := getElem?_some_of_lt hn
    by_cases h0 : 0 < n
    · obtain ⟨m, y, hm, hlt, hy, _⟩ := Tree.link h hx h0
      rw [climb_step (by omega) (show t.pr[(n : Int).toNat]? = some (m : Int) from hm), climb_step (by omega) (show t.pr[(n : Int).toNat]? = some (m : Int) from hm), climb_fuel h f f' m (by omega) (by omega) (by omega)]
    · obtain rfl : n = 0 := by omega
      rw [climb_step (by omega) (show t.pr[((0 : Nat) : Int).toNat]? = some (-1) from Tree.pr_zero h), climb_step (by omega) (show t.pr[((0 : Nat) : Int).toNat]? = some (-1) from Tree.pr_zero h), climb_neg _ _ (by omega), climb_neg _ _ (by omega)]
theorem pathR_step {t : Tree} (h : t.ok = true) {n m : Nat} (hn : n < t.bs.length) (hm : t.pr[n]? = some (m : Int)) (hmn : m < n) : pathR t n = pathR t m ++ [(n : Int)] := by
  rw [pathR_yes h (hasN_iff.2 ⟨by omega, by omega⟩), pathR_yes h (hasN_iff.2 ⟨by omega, by omega⟩)]
  unfold pathB
  obtain ⟨f, hf⟩ : ∃ f, t.bs.length = f + 1 := ⟨t.bs.length - 1, by omega⟩
  rw [climb_fuel h t.bs.length f m (by omega) (by omega) (by omega), hf, climb_step (by omega) (show t.pr[(n : Int).toNat]? = some (m : Int) from hm), List.reverse_cons]
theorem pathR_zero {t : Tree} (h : t.ok = true) : pathR t 0 = [0] := by
  have hl := Tree.lens h
  rw [pathR_yes h (hasN_iff.2 ⟨by omega, by omega⟩)]
  unfold pathB
  obtain ⟨f, hf⟩ : ∃ f, t.bs.length = f + 1 := ⟨t.bs.length - 1, by omega⟩
  rw [hf, climb_step (by omega) (show t.pr[(0 : Int).toNat]? = some (-1) from Tree.pr_zero h), climb_neg _ _ (by omega)]; rfl
theorem first_none {t : Tree} (h : t.ok = true) {x : BL} (hx : t.bs[0]? = some x) : x.2 = [] ∧ x.1 = firstB t.base := by
  have := (Tree.ok_parts h).2.1
  simp only [Tree.first, hx, sameF, Bool.and_eq_true, beq_iff_eq] at this
  obtain ⟨a, b, c, d, e, f⟩ := this
  refine ⟨List.eq_nil_of_length_eq_zero (by omega), ?_⟩
  obtain ⟨⟨_, _, _, _, _⟩, l⟩ := x
  generalize firstB t.base = F at *
  obtain ⟨_, _, _, _, _⟩ := F
  simp_all
theorem storeR_zero {t : Tree} (h : t.ok = true) : storeR t 0 = t.base := by
  have hl := Tree.lens h
  obtain ⟨x, hx⟩ := getElem?_some_of_lt (l := t.bs) (k := 0) (by omega)
  rw [storeR_yes h (hasN_iff.2 ⟨by omega, by omega⟩)]
  unfold aftV
  rw [pathR_zero h]
  have e : actsOf t 0 = [] := by have := actsOf_eq (t := t) (m := 0) hx; rw [(first_none h hx).1] at this; exact this
  show storeOf (runAll (valsOf t.base) (actsOf t 0)).1 = _
  rw [e]
  exact storeOf_valsOf (base_ok h)
theorem aftV_step {t : Tree} (h : t.ok = true) {n m : Nat} (hn : n < t.bs.length) (hm : t.pr[n]? = some (m : Int)) (hmn : m < n) : aftV t n = (runAll (aftV t m) (actsOf t n)).1 := by
  unfold aftV aftL
  rw [pathR_step h hn hm hmn, List.foldl_append]; rfl
/-- The store behind a block is that of a serial run over the store behind the one before. -/
theorem storeR_next {t : Tree} (h : t.ok = true) {n m : Nat} {y : BL} (hy : t.bs[n]? = some y) (hm : t.pr[n]? = some (m : Int)) (hmn : m < n) : storeR t n = srS (storeR t m) y.2 := by
  have hn := (List.getElem?_eq_some_iff.1 hy).1
  rw [storeR_yes h (hasN_iff.2 ⟨by omega, by omega⟩), storeR_yes h (hasN_iff.2 ⟨by omega, by omega⟩), aftV_step h hn hm hmn, actsOf_eq hy]
  have hV := aftL_in h (pathR t m)
  rw [(sr_yes (by unfold srOk; rw [show aftV t (m : Int) = aftL t (pathR t m) from rfl, storeOf_ok hV, acts_ok h hy]; rfl)).1]
  rw [show aftV t (m : Int) = aftL t (pathR t m) from rfl, valsOf_storeOf hV]
theorem storeR_ok {t : Tree} (h : t.ok = true) {n : Int} (hn : hasN t n = true) : entsOk 1 (storeR t n) = true := by
  rw [storeR_yes h hn]; exact storeOf_ok (aftL_in h _)
theorem rightsTo_get (t : Tree) : ∀ (k i : Nat), i < k → (rightsTo t k)[i]? = some (rightAt t (rightsTo t i) i)
  | 0, i, h => by omega
  | k + 1, i, h => by
    rw [rightsTo]
    by_cases hi : i < k
    · rw [List.getElem?_append_left (by rw [rightsTo_len]; exact hi)]; exact rightsTo_get t k i hi
    · obtain rfl : i = k := by omega
      rw [List.getElem?_append_right (by rw [rightsTo_len]; exact Nat.le_refl _), rightsTo_len, Nat.sub_self]; rfl
theorem rightsR_yes {t : Tree} (h : t.ok = true) : rightsR t = rightsTo t t.bs.length := by unfold rightsR; rw [if_pos h]
theorem storeR_front {t : Tree} (h : t.ok = true) {n : Nat} {y : BL} (hy : t.bs[n]? = some y) : storeR t n = srS (frontS t n) y.2 := by
  have hn := (List.getElem?_eq_some_iff.1 hy).1
  by_cases h0 : n = 0
  · subst h0
    have e := (first_none h hy).1
    have hb := base_ok h
    rw [show storeR t ((0 : Nat) : Int) = t.base from storeR_zero h, show frontS t 0 = t.base from rfl, e, (sr_yes (by unfold srOk; rw [hb]; rfl)).1]
    exact (storeOf_valsOf hb).symm
  · obtain ⟨m, hm, hpa, hmn, hN⟩ := link_at h h0 hn
    rw [storeR_next h hy hm hmn]
    unfold frontS
    rw [if_neg h0, hpa]
theorem front_ok {t : Tree} (h : t.ok = true) {n : Nat} (hn : n < t.bs.length) : entsOk 1 (frontS t n) = true := by
  by_cases h0 : n = 0
  · subst h0; exact base_ok h
  · obtain ⟨m, hm, hpa, hmn, hN⟩ := link_at h h0 hn
    unfold frontS
    rw [if_neg h0, hpa]
    exact storeR_ok h hN
/-- What a right block says. -/
theorem right_one {t : Tree} (h : t.ok = true) {n : Nat} {y : BL} (hy : t.bs[n]? = some y) : (rightsR t)[n]? = some (blkRight y.1 y.2 (frontS t n) && (decide (n = 0) || (rightsR t).getD (prAt t n).toNat false)) := by
  have hn := (List.getElem?_eq_some_iff.1 hy).1
  rw [rightsR_yes h, rightsTo_get t _ n hn, rightAt_eq hy]
  by_cases h0 : n = 0
  · subst h0; rfl
  · obtain ⟨m, hm, hpa, hmn, hN⟩ := link_at h h0 hn
    rw [hpa, Int.toNat_natCast, List.getD_eq_getElem?_getD, List.getD_eq_getElem?_getD, rightsTo_get t _ m hmn, rightsTo_get t _ m (by omega)]
theorem right_root {t : Tree} (h : t.ok = true) {n : Nat} {y : BL} (hy : t.bs[n]? = some y) (hr : blkRight y.1 y.2 (frontS t n) = true) : rootOf (storeR t n) = y.1.rt := by
  have hn := (List.getElem?_eq_some_iff.1 hy).1
  have hf := front_ok h hn
  rw [storeR_front h hy, (sr_yes (by unfold srOk; rw [hf, acts_ok h hy]; rfl)).1]
  unfold blkRight at hr
  simp only [Bool.and_eq_true, decide_eq_true_eq] at hr
  exact hr.2.2.1.symm
theorem right_zero {t : Tree} (h : t.ok = true) : (rightsR t)[0]? = some true := by
  have hl := Tree.lens h
  obtain ⟨x, hx⟩ := getElem?_some_of_lt (l := t.bs) (k := 0) (by omega)
  obtain ⟨e1, e2⟩ := first_none h hx
  have hok := newAt_ok hx (upTo_iff.1 (Tree.ok_parts h).2.2.1 0 (by omega))
  have hb := base_ok h
  rw [right_one h hx, blkRight_yes hok (show entsOk 1 (frontS t 0) = true from hb), show frontS t 0 = t.base from rfl, e1, e2, firstB_yes hb]
  have e3 : storeOf (runAll (valsOf t.base) []).1 = t.base := storeOf_valsOf hb
  have e4 : (runAll (valsOf t.base) []).2 = [] := rfl
  rw [e3, e4]
  have e5 : effsSum [] = 21 := by first | rfl | decide | simp [effsSum]
  rw [e5]; simp
end Go.Proofs.YteiemjebdhmnaaaGreat
namespace Go.Proofs.YteiemjebdhmnaaaGreat
open Go Go.RowKit Go.Proofs

/-! ### Entries that are put one after the other -/
def putW (l u : List Ent) : List Ent := u.foldl (fun l e => putF false e.k e.v l) l
theorem putW_snoc (l : List Ent) {u : List Ent} {k : Nat} {e : Ent} (h : u[k]? = some e) : putW l (u.take (k + 1)) = putF false e.k e.v (putW l (u.take k)) := by
  rw [List.take_add_one, h]; simp [putW]
theorem putW_append (l u u' : List Ent) : putW l (u ++ u') = putW (putW l u) u' := by unfold putW; rw [List.foldl_append]
theorem putS_asc {key v : Int} {l : List Ent} (h : l.Pairwise fun a b => a.k < b.k) : (putS key v true l).Pairwise fun a b => a.k < b.k := by
  unfold putS
  rw [if_pos rfl, List.append_assoc, List.pairwise_append]
  refine ⟨h.filter _, ?_, ?_⟩
  · rw [List.singleton_append, List.pairwise_cons]
    exact ⟨fun b hb => by simpa using (List.mem_filter.1 hb).2, h.filter _⟩
  · intro a ha b hb
    have ha' : a.k < key := by simpa using (List.mem_filter.1 ha).2
    rw [List.singleton_append, List.mem_cons] at hb
    rcases hb with rfl | hb
    · exact ha'
    · have hb' : key < b.k := by simpa using (List.mem_filter.1 hb).2
      omega
theorem putS_mem {key v : Int} {l : List Ent} {x : Ent} : x ∈ putS key v true l ↔ x = ⟨key, v⟩ ∨ (x ∈ l ∧ x.k ≠ key) := by
  unfold putS
  rw [if_pos rfl]
  simp only [List.mem_append, List.mem_filter, List.mem_singleton, decide_eq_true_eq]
  constructor
  · rintro ((⟨h, h'⟩ | h) | ⟨h, h'⟩)
    · exact .inr ⟨h, by omega⟩
    · exact .inl h
    · exact .inr ⟨h, by omega⟩
  · rintro (h | ⟨h, h'⟩)
    · exact .inl (.inr h)
    · by_cases hk : x.k < key
      · exact .inl (.inl ⟨h, hk⟩)
      · exact .inr ⟨h, by omega⟩
/-- The values of some keys. -/
def wrTo (K V : List Int) : Nat → List Ent
  | 0 => []
  | k + 1 => wrTo K V k ++ (if (k : Int) ∈ K then [⟨(k : Int), V.getD k 0⟩] else [])
theorem wrTo_yes {K V : List Int} {k : Nat} {x : Int} (hx : V[k]? = some x) (h : (k : Int) ∈ K) : wrTo K V (k + 1) = wrTo K V k ++ [⟨(k : Int), x⟩] := by
  rw [wrTo, if_pos h, List.getD_eq_getElem?_getD, hx]; rfl
theorem wrTo_no {K V : List Int} {k : Nat} (h : ¬ (k : Int) ∈ K) : wrTo K V (k + 1) = wrTo K V k := by
  rw [wrTo, if_neg h, List.append_nil]
theorem wrTo_len (K V : List Int) : ∀ k, (wrTo K V k).length ≤ k
  | 0 => by simp [wrTo]
  | k + 1 => by rw [wrTo, List.length_append]; have := wrTo_len K V k; split <;> simp <;> omega
theorem wrTo_mem {K V : List Int} {x : Ent} : ∀ {k : Nat}, x ∈ wrTo K V k ↔ ∃ i : Nat, i < k ∧ (i : Int) ∈ K ∧ x = ⟨(i : Int), V.getD i 0⟩
  | 0 => by simp [wrTo]
  | k + 1 => by
    rw [wrTo, List.mem_append, wrTo_mem]
    constructor
    · rintro (⟨i, h1, h2, h3⟩ | h)
      · exact ⟨i, by omega, h2, h3⟩
      · split at h
        · exact ⟨k, by omega, by assumption, by simpa using h⟩
        · simp at h
    · rintro ⟨i, h1, h2, h3⟩
      by_cases he : i = k
      · subst he; right; rw [if_pos h2]; simpa using h3
      · exact .inl ⟨i, by omega, h2, h3⟩
theorem wrTo_asc (K V : List Int) : ∀ k, (wrTo K V k).Pairwise fun a b => a.k < b.k
  | 0 => List.Pairwise.nil
  | k + 1 => by
    rw [wrTo, List.pairwise_append]
    refine ⟨wrTo_asc K V k, by split <;> simp, fun a ha b hb => ?_⟩
    obtain ⟨i, hi, _, rfl⟩ := wrTo_mem.1 ha
    split at hb
    · simp only [List.mem_singleton] at hb; subst hb; show (i : Int) < (k : Int); omega
    · simp at hb
theorem vset_getD {v : List Int} {e : Ent} {n : Nat} (h0 : 0 ≤ e.k) (hn : n < v.length) : (vset v e).getD n 0 = if e.k = (n : Int) then e.v else v.getD n 0 := by
  rw [List.getD_eq_getElem?_getD, vset_get h0 hn]
  split
  · rfl
  · rw [List.getD_eq_getElem?_getD]
/-- Entries put one after the other: every key has its last value. -/
theorem putW_wr {V : List Int} (hV : V.length = 32) {u : List Ent} (hu : ∀ e ∈ u, 0 ≤ e.k ∧ e.k ≤ 31) : putW [] u = wrTo (u.map (·.k)) (vsets V u) 32 := by
  have key : ∀ k, k ≤ u.length → putW [] (u.take k) = wrTo ((u.take k).map (·.k)) (vsets V (u.take k)) 32 := by
    intro k
    induction k with
    | zero =>
      intro _
      have : ∀ n, wrTo [] V n = [] := by
        intro n
        induction n with
        | zero => rfl
        | succ n ih => rw [wrTo, ih]; simp
      simp [putW, vsets, this]
    | succ k ih =>
      intro hk
      obtain ⟨e, he⟩ := getElem?_some_of_lt (l := u) (k := k) (by omega)
      have hb := hu e (List.mem_of_getElem? he)
      have ha := wrTo_asc ((u.take k).map (·.k)) (vsets V (u.take k)) 32
      rw [putW_snoc [] he, ih (by omega), putF_asc ha, Bool.not_false]
      refine ents_perm_eq (putS_asc ha) (wrTo_asc _ _ _) fun x => ?_
      rw [putS_mem, wrTo_mem, wrTo_mem, vsets_snoc V he]
      have hl : (vsets V (u.take k)).length = 32 := by rw [vsets_length, hV]
      have hm : ∀ i : Int, i ∈ (u.take (k + 1)).map (·.k) ↔ i ∈ (u.take k).map (·.k) ∨ i = e.k := by
        intro i; rw [List.take_add_one, he]; simp [eq_comm]
      constructor
      · rintro (rfl | ⟨⟨i, h1, h2, rfl⟩, hne⟩)
        · refine ⟨e.k.toNat, by omega, (hm _).2 (.inr (by omega)), ?_⟩
          rw [vset_getD hb.1 (by omega), if_pos (by omega), Int.toNat_of_nonneg hb.1]
        · refine ⟨i, h1, (hm _).2 (.inl h2), ?_⟩
          rw [vset_getD hb.1 (by omega), if_neg (fun h => hne h.symm)]
      · rintro ⟨i, h1, h2, rfl⟩
        rw [vset_getD hb.1 (by omega)]
        by_cases hc : e.k = (i : Int)
        · rw [if_pos hc]; left; rw [hc]
        · rw [if_neg hc]
          right
          refine ⟨⟨i, h1, ?_, rfl⟩, fun h => hc h.symm⟩
          rcases (hm _).1 h2 with h | h
          · exact h
          · exact absurd h.symm hc
  have := key u.length (Nat.le_refl _)
  rwa [List.take_length] at this
/-! ### What actions write -/
def allW (es : List Eff) : List Ent := es.flatMap (·.w)
theorem runAll_allW (v : List Int) (l : List Actn) : (runAll v l).1 = vsets v (allW (runAll v l).2) := by
  have key : ∀ k, k ≤ l.length → (runAll v (l.take k)).1 = vsets v (allW (runAll v (l.take k)).2) := by
    intro k
    induction k with
    | zero => intro _; rfl
    | succ k ih =>
      intro hk
      obtain ⟨x, hx⟩ := getElem?_some_of_lt (l := l) (k := k) (by omega)
      rw [runAll_snoc v hx]
      show vsets _ _ = vsets _ (allW (_ ++ [_]))
      rw [ih (by omega)]
      simp [allW, vsets, List.foldl_append]
  have := key l.length (Nat.le_refl _)
  rwa [List.take_length] at this
theorem runAll_effs {v : List Int} (hv : valsIn v) : ∀ {l : List Actn}, (∀ x ∈ l, x.ok = true) → ∀ e ∈ (runAll v l).2, entsOk 0 e.w = true := by
  have key : ∀ (l : List Actn) (p : List Int × List Eff), valsIn p.1 → (∀ x ∈ l, x.ok = true) → (∀ e ∈ p.2, entsOk 0 e.w = true) → ∀ e ∈ (l.foldl runStep p).2, entsOk 0 e.w = true := by
    intro l
    induction l with
    | nil => intro p _ _ h; exact h
    | cons x l ih =>
      intro p h hl he
      refine ih _ (runStep_in h (hl x (by simp))) (fun y hy => hl y (by simp [hy])) fun e hm => ?_
      rcases List.mem_append.1 hm with hm | hm
      · exact he e hm
      · simp only [List.mem_singleton] at hm; subst hm; exact runV_ok h (hl x (by simp))
  intro l hl
  exact key l (v, []) hv hl (by simp)
theorem allW_in {es : List Eff} (h : ∀ e ∈ es, entsOk 0 e.w = true) : ∀ x ∈ allW es, 0 ≤ x.k ∧ x.k ≤ 31 ∧ 0 ≤ x.v ∧ x.v ≤ 1000000 := by
  intro x hx
  obtain ⟨e, he, hx⟩ := List.mem_flatMap.1 hx
  exact entsOk_mem (h e he) hx
/-! ### Layers -/
structure Lyr where
  b : Int
  w : List Ent
def lyrAt (L : List Lyr) (i : Nat) : Bool := match L[i]? with
  | some x => inR x.b (-1) ((i : Int) - 1) && entsOk 0 x.w
  | none => true
theorem lyrAt_eq {L : List Lyr} {i : Nat} {x : Lyr} (h : L[i]? = some x) : lyrAt L i = (inR x.b (-1) ((i : Int) - 1) && entsOk 0 x.w) := by simp [lyrAt, h]
def lyrsOk (L : List Lyr) : Bool := upTo (lyrAt L) L.length && decide ((L.length : Int) ≤ 20)
/-- What is seen in a layer. -/
def seenF (s : List Ent) (L : List Lyr) : Nat → Int → List Int
  | 0, _ => valsOf s
  | f + 1, n => if n < 0 then valsOf s else match L[n.toNat]? with | some x => vsets (seenF s L f x.b) x.w | none => valsOf s
def seenV (s : List Ent) (L : List Lyr) (n : Int) : List Int := seenF s L (n + 1).toNat n
theorem seenF_neg (s : List Ent) (L : List Lyr) (f : Nat) {n : Int} (h : n < 0) : seenF s L f n = valsOf s := by
  cases f with
  | zero => rfl
  | succ f => rw [seenF, if_pos h]
theorem lyr_below {L : List Lyr} (h : upTo (lyrAt L) L.length = true) {i : Nat} {x : Lyr} (hx : L[i]? = some x) : -1 ≤ x.b ∧ x.b < (i : Int) ∧ entsOk 0 x.w = true := by
  have := upTo_iff.1 h i (List.getElem?_eq_some_iff.1 hx).1
  rw [lyrAt_eq hx, Bool.and_eq_true, inR_iff] at this
  exact ⟨this.1.1, by omega, this.2⟩
theorem seenF_fuel {s : List Ent} {L : List Lyr} (h : upTo (lyrAt L) L.length = true) : ∀ (f f' : Nat) (n : Int), n < f → n < f' → seenF s L f n = seenF s L f' n
  | 0, _, n, hf, _ => by rw [seenF_neg _ _ _ (by omega), seenF_neg _ _ _ (by omega)]
  | _ + 1, 0, n, _, hf => by rw [seenF_neg _ _ _ (by omega), seenF_neg _ _ _ (by omega)]
  | f + 1, f' + 1, n, h1, h2 => by
    by_cases hn : n < 0
    · rw [seenF_neg _ _ _ hn, seenF_neg _ _ _ hn]
    · rw [seenF, seenF, if_neg hn, if_neg hn]
      split
      · rename_i x hx
        have hb := lyr_below h hx
        rw [seenF_fuel h f f' x.b (by omega) (by omega)]
      · rfl
theorem seenV_neg (s : List Ent) (L : List Lyr) {n : Int} (h : n < 0) : seenV s L n = valsOf s := seenF_neg _ _ _ h
theorem seenV_at {s : List Ent} {L : List Lyr} (h : upTo (lyrAt L) L.length = true) {n : Nat} {x : Lyr} (hx : L[n]? = some x) : seenV s L (n : Int) = vsets (seenV s L x.b) x.w := by
  have hb := lyr_below h hx
  unfold seenV
  rw [show ((n : Int) + 1).toNat = n + 1 from by omega, seenF, if_neg (by omega), Int.toNat_natCast, hx]
  show vsets (seenF s L n x.b) x.w = _
  rw [seenF_fuel h n (x.b + 1).toNat x.b (by omega) (by omega)]
theorem seenV_len {s : List Ent} {L : List Lyr} (h : upTo (lyrAt L) L.length = true) (n : Int) : (seenV s L n).length = 32 := by
  have key : ∀ (f : Nat) (n : Int), (seenF s L f n).length = 32 := by
    intro f
    induction f with
    | zero => intro n; exact valsOf_length s
    | succ f ih =>
      intro n
      rw [seenF]
      split
      · exact valsOf_length s
      · split
        · rw [vsets_length]; exact ih _
        · exact valsOf_length s
  exact key _ n
theorem seenV_in {s : List Ent} {L : List Lyr} (hs : entsOk 1 s = true) (h : upTo (lyrAt L) L.length = true) (n : Int) : valsIn (seenV s L n) := by
  have key : ∀ (f : Nat) (n : Int), valsIn (seenF s L f n) := by
    intro f
    induction f with
    | zero => intro n; exact valsOf_in (entsOk_least (by decide) hs)
    | succ f ih =>
      intro n
      rw [seenF]
      split
      · exact valsOf_in (entsOk_least (by decide) hs)
      · split
        · rename_i x hx
          exact valsIn_vsets (fun y hy => by have := entsOk_mem (lyr_below h hx).2.2 hy; exact ⟨this.2.2.1, this.2.2.2⟩) (ih _)
        · exact valsOf_in (entsOk_least (by decide) hs)
  exact key _ n
/-- A key that is written in a layer, and one that is not. -/
theorem seenV_key {s : List Ent} {L : List Lyr} (h : upTo (lyrAt L) L.length = true) {n : Nat} {x : Lyr} (hx : L[n]? = some x) {k : Nat} (hk : k < 32) :
    (seenV s L (n : Int)).getD k 0 = match x.w.find? (fun e => e.k == (k : Int)) with | some e => e.v | none => (seenV s L x.b).getD k 0 := by
  have hb := lyr_below h hx
  rw [seenV_at h hx, List.getD_eq_getElem?_getD, vsets_get x.w _ k (asc_of hb.2.2) (fun y hy => (entsOk_mem hb.2.2 hy).1) (by rw [seenV_len h]; exact hk)]
  cases x.w.find? (fun e => e.k == (k : Int)) with
  | none => rw [List.getD_eq_getElem?_getD]
  | some e => rfl
/-! ### The layers of a tree -/
def lyrOf (t : Tree) (n : Nat) : Lyr := match t.bs[n]? with
  | some y => ⟨prAt t n, putW [] (allW (runAll (frontV t n) y.2).2)⟩
  | none => ⟨0, []⟩
theorem lyrOf_eq {t : Tree} {n : Nat} {y : BL} (h : t.bs[n]? = some y) : lyrOf t n = ⟨prAt t n, putW [] (allW (runAll (frontV t n) y.2).2)⟩ := by unfold lyrOf; rw [h]
def lyrsTo (t : Tree) : Nat → List Lyr
  | 0 => []
  | k + 1 => lyrsTo t k ++ [lyrOf t k]
def lyrsR (t : Tree) : List Lyr := if t.ok = true then lyrsTo t t.bs.length else []
theorem lyrsTo_len (t : Tree) : ∀ k, (lyrsTo t k).length = k
  | 0 => rfl
  | k + 1 => by rw [lyrsTo, List.length_append, lyrsTo_len t k]; rfl
theorem lyrsTo_get (t : Tree) : ∀ (k i : Nat), i < k → (lyrsTo t k)[i]? = some (lyrOf t i)
  | 0, i, h => by omega
  | k + 1, i, h => by
    rw [lyrsTo]
    by_cases hi : i < k
    · rw [List.getElem?_append_left (by rw [lyrsTo_len]; exact hi)]; exact lyrsTo_get t k i hi
    · obtain rfl : i = k := by omega
      rw [List.getElem?_append_right (by rw [lyrsTo_len]; exact Nat.le_refl _), lyrsTo_len, Nat.sub_self]; rfl
theorem frontV_in {t : Tree} (h : t.ok = true) (n : Nat) : valsIn (frontV t n) := by
  unfold frontV
  split
  · exact valsOf_in (entsOk_least (by decide) (base_ok h))
  · exact aftL_in h _
theorem lyr_writes {t : Tree} (h : t.ok = true) {n : Nat} {y : BL} (hy : t.bs[n]? = some y) :
    (∀ x ∈ allW (runAll (frontV t n) y.2).2, 0 ≤ x.k ∧ x.k ≤ 31 ∧ 0 ≤ x.v ∧ x.v ≤ 1000000) :=
  allW_in (runAll_effs (frontV_in h n) (acts_mem (acts_ok h hy)))
/-- What the program writes down: the keys that are written, with their values behind the block. -/
theorem lyr_wr {t : Tree} (h : t.ok = true) {n : Nat} {y : BL} (hy : t.bs[n]? = some y) :
    putW [] (allW (runAll (frontV t n) y.2).2) = wrTo ((allW (runAll (frontV t n) y.2).2).map (·.k)) (runAll (frontV t n) y.2).1 32 := by
  rw [putW_wr (V := frontV t n) (frontV_len t n) fun e he => ⟨(lyr_writes h hy e he).1, (lyr_writes h hy e he).2.1⟩, ← runAll_allW]
theorem lyr_ents {t : Tree} (h : t.ok = true) {n : Nat} {y : BL} (hy : t.bs[n]? = some y) : entsOk 0 (putW [] (allW (runAll (frontV t n) y.2).2)) = true := by
  rw [lyr_wr h hy]
  have hin : valsIn (runAll (frontV t n) y.2).1 := runAll_in (frontV_in h n) (acts_mem (acts_ok h hy))
  refine entsOk_of (wrTo_asc _ _ _) fun x hx => ?_
  obtain ⟨i, hi, _, rfl⟩ := wrTo_mem.1 hx
  have := valsIn_get hin i
  refine ⟨?_, ?_, this.1, this.2⟩ <;> (show _ ≤ _; simp <;> omega)
theorem prAt_bound {t : Tree} (h : t.ok = true) {n : Nat} (hn : n < t.bs.length) : -1 ≤ prAt t n ∧ prAt t n < (n : Int) := by
  by_cases h0 : n = 0
  · subst h0
    have := Tree.pr_zero h
    unfold prAt
    rw [getD_of this]; omega
  · obtain ⟨m, _, hpa, hmn, _⟩ := link_at h h0 hn
    rw [hpa]; omega
theorem lyrsTo_ok {t : Tree} (h : t.ok = true) {k : Nat} (hk : k ≤ t.bs.length) : upTo (lyrAt (lyrsTo t k)) (lyrsTo t k).length = true := by
  rw [upTo_iff, lyrsTo_len]
  intro i hi
  obtain ⟨y, hy⟩ := getElem?_some_of_lt (l := t.bs) (k := i) (by omega)
  rw [lyrAt_eq (lyrsTo_get t k i hi), lyrOf_eq hy]
  have := prAt_bound h (n := i) (by omega)
  rw [Bool.and_eq_true, inR_iff]
  exact ⟨⟨this.1, by show prAt t i ≤ _; omega⟩, lyr_ents h hy⟩
theorem vsets_no : ∀ {u : List Ent} {v : List Int} {i : Nat}, ¬ (i : Int) ∈ u.map (·.k) → (∀ z ∈ u, 0 ≤ z.k) → (vsets v u)[i]? = v[i]?
  | [], v, i, _, _ => rfl
  | e :: u, v, i, h, h0 => by
    have h' : (i : Int) ≠ e.k ∧ ¬ (i : Int) ∈ u.map (·.k) := by simpa using h
    have he := h0 e (by simp)
    show (vsets (vset v e) u)[i]? = _
    rw [vsets_no h'.2 fun z hz => h0 z (by simp [hz])]
    unfold vset
    rw [List.getElem?_set_ne (by omega)]
/-- In the layer of a block the values are those behind the block. -/
theorem lyr_seen {t : Tree} (h : t.ok = true) {k : Nat} (hk : k ≤ t.bs.length) : ∀ n : Nat, n < k → seenV t.base (lyrsTo t k) (n : Int) = aftV t (n : Int) := by
  intro n
  induction n using Nat.strongRecOn with
  | ind n ih =>
    intro hn
    have hok := lyrsTo_ok h hk
    obtain ⟨y, hy⟩ := getElem?_some_of_lt (l := t.bs) (k := n) (by omega)
    have hg := lyrsTo_get t k n hn
    have e1 : seenV t.base (lyrsTo t k) (prAt t n) = frontV t n := by
      unfold frontV
      split
      · rename_i h0; subst h0
        have := Tree.pr_zero h
        exact seenV_neg _ _ (by unfold prAt; rw [getD_of this]; omega)
      · rename_i h0
        obtain ⟨m, _, hpa, hmn, _⟩ := link_at h h0 (by omega)
        rw [hpa]; exact ih m hmn (by omega)
    rw [seenV_at hok hg, lyrOf_eq hy, e1]
    have e2 : aftV t (n : Int) = (runAll (frontV t n) y.2).1 := by
      by_cases h0 : n = 0
      · subst h0
        have hz : t.pr[0]? = some (-1) := Tree.pr_zero h
        unfold aftV aftL
        rw [show (((0 : Nat) : Int)) = 0 from rfl, pathR_zero h]
        show (runAll (valsOf t.base) (actsOf t 0)).1 = _
        have : actsOf t 0 = y.2 := actsOf_eq (m := 0) hy
        rw [this]; rfl
      · obtain ⟨m, hm, hpa, hmn, _⟩ := link_at h h0 (by omega)
        rw [aftV_step h (by omega) hm hmn, actsOf_eq hy]
        unfold frontV
        rw [if_neg h0, hpa]
    rw [e2]
    apply List.ext_getElem?
    intro i
    have hl1 : (vsets (frontV t n) (putW [] (allW (runAll (frontV t n) y.2).2))).length = 32 := by rw [vsets_length, frontV_len]
    have hl2 : (runAll (frontV t n) y.2).1.length = 32 := by rw [runAll_allW, vsets_length, frontV_len]
    by_cases hi : i < 32
    · have he := lyr_ents h hy
      rw [vsets_get _ _ i (asc_of he) (fun z hz => (entsOk_mem he hz).1) (by rw [frontV_len]; exact hi)]
      obtain ⟨q, hq⟩ := getElem?_some_of_lt (l := (runAll (frontV t n) y.2).1) (k := i) (by omega)
      rw [hq]
      have hqd : (runAll (frontV t n) y.2).1.getD i 0 = q := by rw [List.getD_eq_getElem?_getD, hq]; rfl
      rcases hf : (putW [] (allW (runAll (frontV t n) y.2).2)).find? (fun e => e.k == (i : Int)) with _ | e
      · have hno : ¬ (i : Int) ∈ (allW (runAll (frontV t n) y.2).2).map (·.k) := by
          intro hmem
          have hin : (⟨(i : Int), (runAll (frontV t n) y.2).1.getD i 0⟩ : Ent) ∈ putW [] (allW (runAll (frontV t n) y.2).2) := by
            rw [lyr_wr h hy]; exact wrTo_mem.2 ⟨i, hi, hmem, rfl⟩
          have := List.find?_eq_none.1 hf _ hin
          simp at this
        rw [hf, ← hq, runAll_allW]
        exact (vsets_no hno (fun z hz => (lyr_writes h hy z hz).1)).symm
      · have hm := List.mem_of_find?_eq_some hf
        have hk' : e.k = (i : Int) := by simpa using List.find?_some hf
        rw [lyr_wr h hy] at hm
        obtain ⟨j, hj, _, rfl⟩ := wrTo_mem.1 hm
        have : j = i := by have : ((j : Int)) = (i : Int) := hk'; omega
        subst this
        rw [hf, ← hqd]
    · rw [List.getElem?_eq_none (by rw [hl1]; omega), List.getElem?_eq_none (by rw [hl2]; omega)]
end Go.Proofs.YteiemjebdhmnaaaGreat
namespace Go.Proofs.YteiemjebdhmnaaaGreat
open Go Go.RowKit Go.Proofs

structure TL where
  b : Int
  vw : Value
  w : List Ent
def TL.enc (x : TL) : List Value := [.int .i64 x.b, x.vw]
theorem TL.enc_length (x : TL) : x.enc.length = 2 := rfl
def TL.core (x : TL) : Lyr := ⟨x.b, x.w⟩
def SY (w : World) (v : Value) (ls : List Lyr) : Prop := ∃ ts : List TL, ls = ts.map TL.core ∧ SL (RF TL.enc) 2 w v ts ∧ ∀ x ∈ ts, SL (RF Ent.enc) 2 w x.vw x.w
theorem SY.up {w w' : World} {v : Value} {ls : List Lyr} (h : SY w v ls) (hE : Ext w w') : SY w' v ls := by
  obtain ⟨ts, h1, h2, h3⟩ := h
  exact ⟨ts, h1, h2.up hE, fun x hx => (h3 x hx).up hE⟩
theorem SY.nil (w : World) (a : Option Addr) (c : Nat) : SY w (.slice a 0 c) [] := ⟨[], rfl, SL.nil _ _ _ _ _, by simp⟩
theorem SY.open {w : World} {v : Value} {ls : List Lyr} (h : SY w v ls) : ∃ a cap, v = .slice a ls.length cap ∧ ls.length ≤ 9223372036854775807 ∧ ls.length ≤ cap ∧ ∀ (k : Nat) x, ls[k]? = some x → ∃ b off p c, a = some ⟨b, off, none⟩ ∧ LtS b w ∧
    w.cell? ⟨b, off + k * 2, none⟩ = some (.int .i64 x.b) ∧ w.cell? ⟨b, off + k * 2 + 1, none⟩ = some (.slice p x.w.length c) ∧ SL (RF Ent.enc) 2 w (.slice p x.w.length c) x.w := by
  obtain ⟨ts, rfl, h2, h3⟩ := h
  obtain ⟨a, cap, rfl, hl, hcap⟩ := h2.openc
  obtain ⟨a', cap', e', _, hc⟩ := h2.open
  cases e'
  refine ⟨a, cap, by rw [List.length_map], by rw [List.length_map]; exact hl, by rw [List.length_map]; exact hcap, fun k x hx => ?_⟩
  rw [List.getElem?_map, Option.map_eq_some_iff] at hx
  obtain ⟨y, hy, rfl⟩ := hx
  obtain ⟨b, off, ha, hb, hcc⟩ := hc k y hy
  have s1 := h3 y (List.mem_of_getElem? hy)
  obtain ⟨p, c, hv, _, _⟩ := s1.openc
  have hd : w.cell? ⟨b, off + k * 2 + 1, none⟩ = some y.vw := hcc 1 _ rfl
  rw [hv] at hd s1
  exact ⟨b, off, p, c, ha, hb, hcc 0 _ rfl, hd, s1⟩
theorem SY.openc {w : World} {v : Value} {ls : List Lyr} (h : SY w v ls) : ∃ a cap, v = .slice a ls.length cap := by
  obtain ⟨a, cap, e, _⟩ := h.open
  exact ⟨a, cap, e⟩
/-- Layers of the call's own. -/
def OY (eT eE lo : Nat) (w : World) (v : Value) (ts : List TL) : Prop := Own TL.enc eT 2 lo w v ts ∧ ∀ x ∈ ts, Own Ent.enc eE 2 lo w x.vw x.w ∧ Apart x.vw v
theorem OY.sy {eT eE lo : Nat} {w : World} {v : Value} {ts : List TL} (h : OY eT eE lo w v ts) : SY w v (ts.map TL.core) := ⟨ts, rfl, h.1.sl TL.enc_length, fun x hx => (h.2 x hx).1.sl Ent.enc_length⟩
theorem OY.up {eT eE lo : Nat} {w w' : World} {v : Value} {ts : List TL} (h : OY eT eE lo w v ts) (hE : Ext w w') : OY eT eE lo w' v ts := ⟨h.1.up hE, fun x hx => ⟨(h.2 x hx).1.up hE, (h.2 x hx).2⟩⟩
theorem OY.lo {eT eE lo lo' : Nat} {w : World} {v : Value} {ts : List TL} (h : OY eT eE lo w v ts) (hl : lo' ≤ lo) : OY eT eE lo' w v ts := ⟨h.1.lo hl, fun x hx => ⟨(h.2 x hx).1.lo hl, (h.2 x hx).2⟩⟩
theorem OY.setOld {eT eE lo : Nat} {w : World} {v : Value} {ts : List TL} (h : OY eT eE lo w v ts) (a : Addr) (u : Value) (hlt : a.block < lo) : OY eT eE lo (w.setCell a u) v ts := ⟨h.1.setOld a u hlt, fun x hx => ⟨(h.2 x hx).1.setOld a u hlt, (h.2 x hx).2⟩⟩
theorem OY.nil (eT eE lo : Nat) (w : World) : OY eT eE lo w (.slice none 0 0) [] := ⟨Own.nil _ _ _ _ _, by simp⟩
/-- One layer more. -/
theorem OY.snoc {eT eE lo : Nat} {w w' : World} {v v' : Value} {ts : List TL} {x : TL} (h : OY eT eE lo w v ts) (hg : w.grownBy w' v.ownBlock) (hb : v'.ownBlock = v.ownBlock ∨ v'.ownBlock = some w.heap.size)
    (ho : Own TL.enc eT 2 lo w' v' (ts ++ [x])) (hw : Own Ent.enc eE 2 lo w x.vw x.w) (aw : Apart x.vw v) : OY eT eE lo w' v' (ts ++ [x]) := by
  refine ⟨ho, fun y hy => ?_⟩
  rcases List.mem_append.1 hy with hy | hy
  · obtain ⟨a1, a2⟩ := h.2 y hy
    exact ⟨a1.keep hg a2, Apart.grown a1 a2 (Nat.le_refl _) hb⟩
  · rw [List.mem_singleton] at hy; subst hy
    exact ⟨hw.keep hg aw, Apart.grown hw aw (Nat.le_refl _) hb⟩
/-- The writes of the layers lie apart from one another. -/
def PWY (ts : List TL) : Prop := ts.Pairwise fun x y => Apart x.vw y.vw
theorem PWY.nil : PWY [] := List.Pairwise.nil
theorem PWY.snoc {ts : List TL} {x : TL} (h : PWY ts) (hx : ∀ y ∈ ts, Apart y.vw x.vw) : PWY (ts ++ [x]) := by
  unfold PWY
  rw [List.pairwise_append]
  exact ⟨h, by simp, fun a ha b hb => by rw [List.mem_singleton] at hb; subst hb; exact hx a ha⟩
/-! ### Marks -/
def mkY (m : Int) (x : TL) : TL := ⟨m, x.vw, marksEnt (m + 1) x.w.length⟩
def mkYN (m : Int) (x : TL) : Int := m + 1 + 2 * x.w.length
def mkYL : Int → List TL → List TL
  | _, [] => []
  | m, x :: ts => mkY m x :: mkYL (mkYN m x) ts
def mkYM : Int → List TL → Int
  | m, [] => m
  | m, x :: ts => mkYM (mkYN m x) ts
theorem mkYL_len : ∀ (ts : List TL) (m : Int), (mkYL m ts).length = ts.length
  | [], _ => rfl
  | x :: ts, m => by rw [mkYL, List.length_cons, mkYL_len ts, List.length_cons]
theorem mkYM_append : ∀ (ts us : List TL) (m : Int), mkYM m (ts ++ us) = mkYM (mkYM m ts) us
  | [], _, _ => rfl
  | x :: ts, us, m => mkYM_append ts us (mkYN m x)
theorem mkYL_append : ∀ (ts us : List TL) (m : Int), mkYL m (ts ++ us) = mkYL m ts ++ mkYL (mkYM m ts) us
  | [], _, _ => rfl
  | x :: ts, us, m => by
    show mkY m x :: mkYL (mkYN m x) (ts ++ us) = mkY m x :: mkYL (mkYN m x) ts ++ mkYL (mkYM (mkYN m x) ts) us
    rw [mkYL_append ts us]; rfl
/-- How many numbers layers take. -/
def lyrW (ts : List TL) : Nat := (ts.map fun x => 1 + 2 * x.w.length).sum
theorem mkYM_eq : ∀ (ts : List TL) (m : Int), mkYM m ts = m + lyrW ts
  | [], m => by simp [mkYM, lyrW]
  | x :: ts, m => by
    rw [mkYM, mkYM_eq ts]
    simp only [lyrW, List.map_cons, List.sum_cons, mkYN]
    push_cast
    omega
theorem lyrW_take (ts : List TL) (k : Nat) : lyrW (ts.take k) ≤ lyrW ts := by
  unfold lyrW
  have : ∀ (l : List Nat) (k : Nat), (l.take k).sum ≤ l.sum := by
    intro l
    induction l with
    | nil => intro k; simp
    | cons a l ih => intro k; cases k with
      | zero => simp
      | succ k => simp only [List.take_succ_cons, List.sum_cons]; have := ih k; omega
  rw [List.map_take]
  exact this _ k
theorem mkYL_get : ∀ (ts : List TL) (m : Int) (j : Nat) (y : TL), (mkYL m ts)[j]? = some y → ∃ t, ts[j]? = some t ∧ y.vw = t.vw
  | [], _, _, _, h => by simp [mkYL] at h
  | x :: ts, m, 0, y, h => by
    simp [mkYL] at h
    subst h
    exact ⟨x, rfl, rfl⟩
  | x :: ts, m, j + 1, y, h => mkYL_get ts (mkYN m x) j y (by simpa [mkYL] using h)
theorem mixY_get {ts : List TL} {m : Int} {k : Nat} (hk : k ≤ ts.length) {j : Nat} {y : TL} (h : (mkYL m (ts.take k) ++ ts.drop k)[j]? = some y) : ∃ t, ts[j]? = some t ∧ y.vw = t.vw := by
  have hl : (mkYL m (ts.take k)).length = k := by rw [mkYL_len, List.length_take]; omega
  by_cases hj : j < k
  · rw [List.getElem?_append_left (by omega)] at h
    obtain ⟨t, h1, h2⟩ := mkYL_get _ _ _ _ h
    rw [List.getElem?_take_of_lt hj] at h1
    exact ⟨t, h1, h2⟩
  · rw [List.getElem?_append_right (by omega), hl, List.getElem?_drop, show k + (j - k) = j from by omega] at h
    exact ⟨y, h, rfl⟩
theorem mixY_at {ts : List TL} {m : Int} {k : Nat} {x : TL} (h : ts[k]? = some x) : (mkYL m (ts.take k) ++ ts.drop k)[k]? = some x := by
  have hk := (List.getElem?_eq_some_iff.1 h).1
  have hl : (mkYL m (ts.take k)).length = k := by rw [mkYL_len, List.length_take]; omega
  rw [List.getElem?_append_right (by omega), hl, List.getElem?_drop]; simpa using h
theorem mixY_next {ts : List TL} {m : Int} {k : Nat} {x : TL} (h : ts[k]? = some x) : mkYL m (ts.take (k + 1)) ++ ts.drop (k + 1) = (mkYL m (ts.take k) ++ ts.drop k).set k (mkY (mkYM m (ts.take k)) x) := by
  have hk := (List.getElem?_eq_some_iff.1 h).1
  have hl : (mkYL m (ts.take k)).length = k := by rw [mkYL_len, List.length_take]; omega
  have hd : ts.drop k = x :: ts.drop (k + 1) := by
    rw [List.drop_eq_getElem_cons hk]
    congr 1
    exact (List.getElem?_eq_some_iff.1 h).2
  rw [List.set_append_right _ _ (by omega), hl, Nat.sub_self, hd, List.set_cons_zero, List.take_add_one, h, mkYL_append]
  simp [mkYL]
theorem mixY_len {ts : List TL} {m : Int} {k : Nat} (hk : k ≤ ts.length) : (mkYL m (ts.take k) ++ ts.drop k).length = ts.length := by
  rw [List.length_append, mkYL_len, List.length_take, List.length_drop]; omega
theorem mkYM_snoc {ts : List TL} {m : Int} {k : Nat} {x : TL} (h : ts[k]? = some x) : mkYM m (ts.take (k + 1)) = mkYM m (ts.take k) + 1 + 2 * x.w.length := by
  rw [List.take_add_one, h, mkYM_append]; rfl
theorem mkYL_at : ∀ (ts : List TL) (m : Int) (k : Nat) (x : TL), ts[k]? = some x → (mkYL m ts)[k]? = some (mkY (mkYM m (ts.take k)) x)
  | [], _, _, _, h => by simp at h
  | y :: ts, m, 0, x, h => by simp at h; subst h; rfl
  | y :: ts, m, k + 1, x, h => mkYL_at ts (mkYN m y) k x (by simpa using h)
theorem pwy_at {ts : List TL} (h : PWY ts) {j k : Nat} {a b : TL} (ha : ts[j]? = some a) (hb : ts[k]? = some b) (hne : j ≠ k) : Apart a.vw b.vw := by
  obtain ⟨a1, a2⟩ := List.getElem?_eq_some_iff.1 ha
  obtain ⟨b1, b2⟩ := List.getElem?_eq_some_iff.1 hb
  have hp := h
  unfold PWY at hp
  rw [List.pairwise_iff_getElem] at hp
  rcases Nat.lt_or_gt_of_ne hne with h7 | h7
  · have := hp j k a1 b1 h7; rw [a2, b2] at this; exact this
  · have := hp k j b1 a1 h7; rw [a2, b2] at this
    exact this.symm
/-- Layers that read as marks. -/
def SMY (w : World) (v : Value) (m : Int) (ts : List TL) : Prop := SL (RF TL.enc) 2 w v (mkYL m ts) ∧ ∀ x ∈ mkYL m ts, SL (RF Ent.enc) 2 w x.vw x.w
theorem SMY.up {w w' : World} {v : Value} {m : Int} {ts : List TL} (h : SMY w v m ts) (hE : Ext w w') : SMY w' v m ts := ⟨h.1.up hE, fun x hx => (h.2 x hx).up hE⟩
theorem OY.sm {eT eE lo : Nat} {w : World} {v : Value} {m : Int} {ts : List TL} (h : OY eT eE lo w v (mkYL m ts)) : SMY w v m ts := ⟨h.1.sl TL.enc_length, fun x hx => (h.2 x hx).1.sl Ent.enc_length⟩
theorem lyrW_le : ∀ (ts : List TL), (∀ x ∈ ts, x.w.length ≤ 1000) → lyrW ts ≤ 2001 * ts.length
  | [], _ => by simp [lyrW]
  | x :: ts, h => by
    have h1 := lyrW_le ts fun y hy => h y (by simp [hy])
    have h2 := h x (by simp)
    simp only [lyrW, List.map_cons, List.sum_cons, List.length_cons] at *
    omega
/-- Which blocks marks turn. -/
def MBY (v : Value) (ts : List TL) (b : Nat) : Prop := v.ownBlock = some b ∨ ∃ x ∈ ts, x.vw.ownBlock = some b
theorem OY.mb_lo {eT eE lo : Nat} {w : World} {v : Value} {ts : List TL} (h : OY eT eE lo w v ts) {b : Nat} (hb : MBY v ts b) : lo ≤ b := by
  rcases hb with hb | ⟨x, hx, hb⟩
  · exact (World.ownsRow.lt h.1 b hb).1
  · exact (World.ownsRow.lt (h.2 x hx).1 b hb).1
end Go.Proofs.YteiemjebdhmnaaaGreat
