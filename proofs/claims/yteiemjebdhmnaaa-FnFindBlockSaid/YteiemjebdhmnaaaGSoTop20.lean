/- Walks: trees of blocks: sizes, copies, comparisons. Walks: trees of blocks: copies, comparisons, marks. The laws of trees: walks: blocks that are found, ways. The law FnExactPathTo's walk. Plain laws: ways in a valid tree; blocks that are found. Plain ground: append of a whole slice in a region that draws its order; parts of slices of the call's own. Plain ground: trees of the call's own whose slices share no block; rows behind an append. Plain ground: trees of the call's own that grow by a block and by a number. Plain ground: the tree in a box of its own while it grows, beside the reader. Plain ground: append of a whole slice to an empty one of no room: nothing that was there changes. -/
import Derived.Test.YteiemjebdhmnaaaGSoTop08
import Derived.Test.YteiemjebdhmnaaaGSoTop04
import Derived.Test.YteiemjebdhmnaaaGSoTop19
import Derived.Test.YteiemjebdhmnaaaGSoTop18
import Derived.Test.YteiemjebdhmnaaaGSoTop10
import Derived.Test.YteiemjebdhmnaaaGSoTop13
set_option linter.unusedSimpArgs false
set_option linter.unusedVariables false
namespace Go.Proofs.Yteiemjebdhmnaaa
open Go Go.RowKit Go.Proofs

theorem fBlk : AppFacts Try.prog 24 39 6 64 := by
  have h : (Try.prog.info? 39).map (fun i => (i.zero, i.size, i.bytes)) = some (some (.agg #[.int .i64 0, .int .i64 0, .int .i64 0, .slice none 0 0, .int .i64 0, .int .i64 0]), 6, 64) := by kernel_rfl
  obtain ⟨i0, hi, hz0, hz1, hz2⟩ := info_parts h
  exact ⟨Try.underlying24, ⟨i0, _, hi, hz0, hz1, hz2, rfl⟩, by decide⟩
end Go.Proofs.Yteiemjebdhmnaaa
namespace Go.Proofs.Yteiemjebdhmnaaa
open Go Go.RowKit Go.Proofs

theorem Own.setApart {α : Type} {enc : α → List Value} {e sz lo : Nat} {w : World} {v : Value} {l : List α} (h : Own enc e sz lo w v l) {g : Nat} (i : Nat) (u : Value) (hap : v.ownBlock = none ∨ v.ownBlock ≠ some g) : Own enc e sz lo (w.setCell ⟨g, i, none⟩ u) v l :=
  h.kept (grownBy_set w ⟨g, i, none⟩ u) hap
theorem Keep.setCell {hi : Nat} {w w' : World} (h : Keep hi w w') {g : Nat} (i : Nat) (u : Value) (hg : g < hi) : Keep hi w (w'.setCell ⟨g, i, none⟩ u) :=
  h.trans ⟨(grownBy_set w' ⟨g, i, none⟩ u).size, fun k hk hs => (grownBy_set w' ⟨g, i, none⟩ u).block k hs (fun e => by
    have e' : k = g := by simpa using e
    omega)⟩
end Go.Proofs.Yteiemjebdhmnaaa
namespace Go.Proofs.Yteiemjebdhmnaaa
open Go Go.RowKit Go.Proofs

end Go.Proofs.Yteiemjebdhmnaaa
namespace Go.Proofs.Yteiemjebdhmnaaa
open Go Go.RowKit Go.Proofs

theorem pathR_le (t : Tree) (n : Int) : (pathR t n).length ≤ t.bs.length := by
  unfold pathR
  split
  · rw [pathB, List.length_reverse]; exact climb_le _ _ _
  · simp
end Go.Proofs.Yteiemjebdhmnaaa
namespace Go.Proofs.Yteiemjebdhmnaaa
open Go Go.RowKit

theorem Tree.lens {t : Tree} (h : t.ok = true) : t.pr.length = t.bs.length ∧ 1 ≤ t.bs.length ∧ t.bs.length ≤ 14 := by
  obtain ⟨_, a2, a3, _⟩ := Tree.head_parts (Tree.ok_parts h).1
  exact ⟨a3, a2.1, a2.2⟩
theorem Tree.ht_zero {t : Tree} (h : t.ok = true) {x : BL} (hx : t.bs[0]? = some x) : x.1.ht = 0 := by
  have := (Tree.ok_parts h).2.1
  simp only [Tree.first, hx, sameF, Bool.and_eq_true, beq_iff_eq] at this
  rw [this.2.1]
  unfold firstB; split <;> rfl
theorem Tree.pr_zero {t : Tree} (h : t.ok = true) : t.pr[0]? = some (-1) := by
  obtain ⟨_, a2, a3, a4⟩ := Tree.head_parts (Tree.ok_parts h).1
  obtain ⟨m, hm⟩ := getElem?_some_of_lt (l := t.pr) (k := 0) (by omega)
  rw [getD_of hm] at a4; rw [hm, a4]
/-- Behind another: the one before has a lesser number, a height less by 1. -/
theorem Tree.link {t : Tree} (h : t.ok = true) {i : Nat} {x : BL} (hx : t.bs[i]? = some x) (h0 : 0 < i) : ∃ (m : Nat) (y : BL), t.pr[i]? = some (m : Int) ∧ m < i ∧ t.bs[m]? = some y ∧ y.1.ht + 1 = x.1.ht := by
  have hi := (List.getElem?_eq_some_iff.1 hx).1
  have hl := Tree.lens h
  obtain ⟨n, hn⟩ := getElem?_some_of_lt (l := t.pr) (k := i) (by omega)
  have hlk := upTo_iff.1 (Tree.ok_parts h).2.2.2 i hi
  have hb : inR n 0 ((i : Int) - 1) = true := by
    unfold linkAt at hlk
    have : i ≠ 0 := by omega
    simp only [hx, hn, this, decide_false, Bool.false_or, Bool.and_eq_true] at hlk
    exact hlk.1
  rw [inR_iff] at hb
  obtain ⟨y, hy⟩ := getElem?_some_of_lt (l := t.bs) (k := n.toNat) (by omega)
  rw [linkAt_eq hx hn hy h0] at hlk
  simp only [Bool.and_eq_true, decide_eq_true_eq] at hlk
  exact ⟨n.toNat, y, by rw [hn]; congr 1; omega, by omega, hy, hlk.2.2.1⟩
theorem climb_all {t : Tree} (h : t.ok = true) : ∀ (f n : Nat) (x : BL), n < f → t.bs[n]? = some x →
    (((climb t.pr f n).length : Int) = x.1.ht + 1) ∧ (climb t.pr f n)[0]? = some (n : Int) ∧ (climb t.pr f n).getLast? = some 0 ∧
    (∀ (k : Nat) a b, (climb t.pr f n)[k]? = some a → (climb t.pr f n)[k + 1]? = some b → t.pr[a.toNat]? = some b) ∧
    (∀ a ∈ climb t.pr f n, ∃ (m : Nat) (y : BL), a = (m : Int) ∧ t.bs[m]? = some y ∧ (a = (n : Int) ∨ y.1.ht < x.1.ht))
  | 0, n, x, hf, _ => by omega
  | f + 1, n, x, hf, hx => by
    by_cases h0 : 0 < n
    · obtain ⟨m, y, hm, hlt, hy, hh⟩ := Tree.link h hx h0
      obtain ⟨c1, c2, c3, c4, c5⟩ := climb_all h f m y (by omega) hy
      rw [climb_step (by omega) (show t.pr[(n : Int).toNat]? = some (m : Int) from hm)]
      refine ⟨by rw [List.length_cons]; omega, rfl, ?_, ?_, ?_⟩
      · rw [List.getLast?_cons, c3]; rfl
      · intro k a b ha hb
        rcases k with _ | k
        · simp only [List.getElem?_cons_zero, Option.some.injEq, Nat.zero_add, List.getElem?_cons_succ] at ha hb
          subst ha
          rw [c2, Option.some.injEq] at hb
          subst hb
          exact hm
        · simp only [List.getElem?_cons_succ] at ha hb
          exact c4 k a b ha hb
      · intro a ha
        rcases List.mem_cons.1 ha with rfl | ha
        · exact ⟨n, x, rfl, hx, .inl rfl⟩
        · obtain ⟨q, z, rfl, hz, hz2⟩ := c5 a ha
          refine ⟨q, z, rfl, hz, .inr ?_⟩
          rcases hz2 with e | e
          · have : q = m := by omega
            subst this
            rw [hy, Option.some.injEq] at hz; subst hz; omega
          · omega
    · obtain rfl : n = 0 := by omega
      rw [climb_step (by omega) (show t.pr[((0 : Nat) : Int).toNat]? = some (-1) from Tree.pr_zero h), climb_neg _ _ (by omega)]
      have := Tree.ht_zero h hx
      refine ⟨by rw [this]; rfl, rfl, rfl, fun k a b _ hb => by simp at hb, fun a ha => ?_⟩
      simp at ha; subst ha
      exact ⟨0, x, rfl, hx, .inl rfl⟩
theorem hasN_iff {t : Tree} {n : Int} : hasN t n = true ↔ 0 ≤ n ∧ n < t.bs.length := by unfold hasN; rw [inR_iff]; omega
theorem pathR_some {t : Tree} {n : Int} (h : pathR t n ≠ []) : t.ok = true ∧ hasN t n = true := by
  unfold pathR at h
  split at h
  · rename_i hc; simpa using hc
  · exact absurd rfl h
/-- The way to a block: from the first one, one behind the other; as many as its height and one. -/
theorem path_all {t : Tree} {n : Int} (h : t.ok = true) (hn : hasN t n = true) : ∃ x, t.bs[n.toNat]? = some x ∧ ((pathR t n).length : Int) = x.1.ht + 1 ∧ (pathR t n)[0]? = some 0 ∧ (pathR t n)[(pathR t n).length - 1]? = some n ∧
    (∀ (k : Nat) a b, (pathR t n)[k]? = some a → (pathR t n)[k + 1]? = some b → t.pr[b.toNat]? = some a) ∧ (∀ a ∈ pathR t n, ∃ (m : Nat) (y : BL), a = (m : Int) ∧ t.bs[m]? = some y ∧ (a = n ∨ y.1.ht < x.1.ht)) := by
  have hb := hasN_iff.1 hn
  obtain ⟨x, hx⟩ := getElem?_some_of_lt (l := t.bs) (k := n.toNat) (by omega)
  obtain ⟨c1, c2, c3, c4, c5⟩ := climb_all h t.bs.length n.toNat x (by omega) hx
  rw [show ((n.toNat : Nat) : Int) = n from by omega] at c1 c2 c3 c4 c5
  rw [pathR_yes h hn]
  unfold pathB
  have hpos : 0 < (climb t.pr t.bs.length n).length := (List.getElem?_eq_some_iff.1 c2).1
  refine ⟨x, hx, by rw [List.length_reverse]; exact c1, ?_, ?_, ?_, fun a ha => c5 a (List.mem_reverse.1 ha)⟩
  · rw [List.getElem?_reverse hpos, Nat.sub_zero, ← List.getLast?_eq_getElem?]
    exact c3
  · rw [List.length_reverse, List.getElem?_reverse (by omega)]
    rw [show (climb t.pr t.bs.length n).length - 1 - ((climb t.pr t.bs.length n).length - 1) = 0 from by omega]
    exact c2
  · intro k a b ha hb
    have hk : k + 1 < (climb t.pr t.bs.length n).length := by have := (List.getElem?_eq_some_iff.1 hb).1; rw [List.length_reverse] at this; exact this
    rw [List.getElem?_reverse (by omega)] at ha hb
    refine c4 ((climb t.pr t.bs.length n).length - 1 - (k + 1)) b a hb ?_
    rw [show (climb t.pr t.bs.length n).length - 1 - (k + 1) + 1 = (climb t.pr t.bs.length n).length - 1 - k from by omega]
    exact ha
theorem mem_path_self {t : Tree} {n : Int} (h : t.ok = true) (hn : hasN t n = true) : n ∈ pathR t n := by
  obtain ⟨x, _, _, _, h4, _⟩ := path_all h hn
  exact List.mem_of_getElem? h4
theorem mem_path_zero {t : Tree} {n : Int} (h : t.ok = true) (hn : hasN t n = true) : (0 : Int) ∈ pathR t n := by
  obtain ⟨x, _, _, h3, _⟩ := path_all h hn
  exact List.mem_of_getElem? h3
/-- Found blocks. -/
theorem findB_some {cs : List BL} {sum : Int} (h : 0 ≤ findB cs sum) : ∃ x, cs[(findB cs sum).toNat]? = some x ∧ bsumOf x = sum := by
  rcases hf : cs.findIdx? (fun x => bsumOf x == sum) with _ | i
  · exfalso; unfold findB at h; rw [hf] at h; simp at h
  · have e : findB cs sum = i := by unfold findB; rw [hf]
    rw [List.findIdx?_eq_some_iff_getElem] at hf
    obtain ⟨h1, h2, _⟩ := hf
    exact ⟨cs[i], by rw [e]; simp [h1], by simpa using h2⟩
theorem findB_self {t : Tree} (h : t.ok = true) {k : Nat} {x : BL} (hx : t.bs[k]? = some x) : findB t.bs (bsumOf x) = k := by
  have hi := (List.getElem?_eq_some_iff.1 hx).1
  have := upTo_iff.1 (Tree.ok_parts h).2.2.1 k hi
  rw [newAt_find hx, Bool.and_eq_true, decide_eq_true_eq] at this
  exact this.2
end Go.Proofs.Yteiemjebdhmnaaa
namespace Go.Proofs.Yteiemjebdhmnaaa
open Go Go.RowKit Go.Proofs

theorem step_catW {P : Program} {t e sz bytes : Nat} (F : AppFacts P t e sz bytes) {ops : Array Oper} {o : Oper} {a : Act} {K : Act → World → Prop} {Q : Exit → Act → World → Prop} {E : Prop} (hw : Region.wanted o (yielded ops a.tmps) = true) (s x : Operand)
    (ho : o.op = .call { callee := .builtin .append, args := #[s, x], argTypes := #[t, t] }) {α : Type} (enc : α → List Value) (he : ∀ x, (enc x).length = sz) (Wb : World) {lo : Nat} {w : World} (ys : List α) (l : List α) {v vx : Value} (hs : a.eval s = v)
    (hx : a.eval x = vx) (hown : Own enc e sz lo w v l) (hE : Ext Wb w) (hlo : Wb.heap.size ≤ lo) (hlo' : lo ≤ w.heap.size) (hys : SL (RF enc) sz w vx ys)
    (h1 : ∀ u ∈ ys.flatMap enc, u.oneCell' = true) (hb : (l.length + ys.length) * bytes ≤ 140737488355328) (hb' : l.length + ys.length ≤ 9223372036854775807)
    (h : ∀ v' (z1 : Extd Wb), Own enc e sz lo z1.val v' (l ++ ys) → w.grownBy z1.val v.ownBlock → (v'.ownBlock = v.ownBlock ∨ v'.ownBlock = some w.heap.size) → K (a.put o.dst v') z1.val) :
    if Region.wanted o (yielded ops a.tmps) = true then Oper.wp P o a w K Q else E := by
  rw [if_pos hw]
  obtain ⟨i, z, hi, hz, hsize, hby, hzs⟩ := F.info
  have hown' : w.ownsRow lo e sz v l.length (l.flatMap enc) := hown
  obtain ⟨p, c, rfl, _, hc⟩ := hys.open
  rcases p with _ | ad
  · obtain rfl : ys = [] := by
      cases ys with
      | nil => rfl
      | cons y ys => obtain ⟨_, _, e2, _⟩ := hc 0 y rfl; cases e2
    have hrun := run_append_none (P := P) (w := w) lo t o.type e i sz F.und hi v l.length c _ hown'
    unfold Oper.wp
    simp [execOp, ho, resolve, invoke, builtin, hs, hx, hrun, Result.andThen]
    exact h v ⟨w, hE⟩ (by rw [List.append_nil]; exact hown) ⟨rfl, rfl, rfl, Nat.le_refl _, fun _ _ _ => rfl⟩ (.inl rfl)
  · obtain ⟨v', w1, hr, h2, h3, h4, h5⟩ := run_append_own_at (P := P) w lo t o.type e i z sz bytes F.und hi hz hsize hby hzs F.pos v l.length (l.flatMap enc) hown' ad ys.length c (ys.flatMap enc) (flatMap_length he ys) (fun j u hu => by
      have hj := (List.getElem?_eq_some_iff.1 hu).1
      have h0 : 0 < ys.length := by
        cases ys with
        | nil => simp at hj
        | cons y ys => simp
      obtain ⟨y, hy⟩ := getElem?_some_of_lt (l := ys) (k := 0) h0
      obtain ⟨b, off, e2, _⟩ := hc 0 y hy
      cases e2
      have e1 : (⟨b, off, none⟩ : Addr).add j = ⟨b, off + j, none⟩ := by unfold Addr.add; split <;> simp_all
      rw [e1]
      exact SL.flatC he hys j u hu) h1 (by simpa [maxLen] using hb') hb hlo'
    unfold Oper.wp execOp
    simp only [ho, resolve, invoke, builtin, Sem.run_bind, Sem.run_pure, Result.andThen_ok, List.map_toArray, List.map_cons, List.map_nil, hs, hx, hr]
    refine h v' ⟨w1, hE.grown h3 fun k hk => Nat.le_trans hlo (World.ownsRow.lt hown' k hk).1⟩ ?_ h3 h5
    show w1.ownsRow _ _ _ _ _ _
    simpa [Own] using h2
theorem step_catA {P : Program} {t e sz bytes : Nat} (F : AppFacts P t e sz bytes) {ops : Array Oper} {o : Oper} {a : Act} {K : Act → World → Prop} {Q : Exit → Act → World → Prop} {E : Prop} (hgd : o.guard = none) (s x : Operand)
    (ho : o.op = .call { callee := .builtin .append, args := #[s, x], argTypes := #[t, t] }) {α : Type} (enc : α → List Value) (he : ∀ x, (enc x).length = sz) (Wb : World) {lo : Nat} {w : World} (ys : List α) (l : List α) {v vx : Value} (hs : a.eval s = v)
    (hx : a.eval x = vx) (hown : Own enc e sz lo w v l) (hE : Ext Wb w) (hlo : Wb.heap.size ≤ lo) (hlo' : lo ≤ w.heap.size) (hys : SL (RF enc) sz w vx ys)
    (h1 : ∀ u ∈ ys.flatMap enc, u.oneCell' = true) (hb : (l.length + ys.length) * bytes ≤ 140737488355328) (hb' : l.length + ys.length ≤ 9223372036854775807)
    (h : ∀ v' (z1 : Extd Wb), Own enc e sz lo z1.val v' (l ++ ys) → w.grownBy z1.val v.ownBlock → (v'.ownBlock = v.ownBlock ∨ v'.ownBlock = some w.heap.size) → K (a.put o.dst v') z1.val) :
    if Region.wanted o (yielded ops a.tmps) = true then Oper.wp P o a w K Q else E := step_catW F (by simp [Region.wanted, hgd]) s x ho enc he Wb ys l hs hx hown hE hlo hlo' hys h1 hb hb' h
/-- The first j elements are the call's own too. -/
theorem Own.first {α : Type} {enc : α → List Value} {e sz lo : Nat} (he : ∀ x, (enc x).length = sz) {w : World} {p : Option Addr} {n c : Nat} {l : List α} (h : Own enc e sz lo w (.slice p n c) l) {j : Nat} (hj : j ≤ l.length) : Own enc e sz lo w (.slice p j c) (l.take j) := by
  have hl : (l.take j).length = j := by rw [List.length_take]; omega
  have hf : (l.take j).flatMap enc = (l.flatMap enc).take (j * sz) := by
    have e1 : l.flatMap enc = (l.take j).flatMap enc ++ (l.drop j).flatMap enc := by rw [← List.flatMap_append, List.take_append_drop]
    rw [e1, List.take_left' (by rw [flatMap_length he, hl])]
  show w.ownsRow lo e sz _ _ _
  rw [hl, hf]
  refine ⟨by rw [List.length_take, flatMap_length he, Nat.min_eq_left (Nat.mul_le_mul_right _ hj)], ?_⟩
  rcases h.2 with ⟨h1, h2⟩ | ⟨g, cap, cur, hv, hlo, hg, hnc, hcm, hcs, ht⟩
  · cases h1
    left; exact ⟨by rw [show j = 0 by omega], by omega⟩
  · cases hv
    right
    refine ⟨g, c, cur, rfl, hlo, hg, by omega, hcm, hcs, ?_⟩
    rw [← ht, List.take_take, Nat.min_eq_left (Nat.mul_le_mul_right _ hj)]
/-- The elements from j on. -/
theorem SL.rest {α : Type} {R : World → List Value → α → Prop} {sz : Nat} {w : World} {b off n cap : Nat} {l : List α} (h : SL R sz w (.slice (some ⟨b, off, none⟩) n cap) l) {j : Nat} (hj : j ≤ l.length) {m c : Nat} (hm : m = l.length - j) (hc : m ≤ c) {o : Nat} (ho : o = off + j * sz) : SL R sz w (.slice (some ⟨b, o, none⟩) m c) (l.drop j) := by
  subst hm; subst ho
  obtain ⟨a', cap', hv, hl, hcc⟩ := h
  cases hv
  have e : (l.drop j).length = l.length - j := List.length_drop
  refine ⟨_, c, by rw [e], ⟨by rw [e]; omega, by rw [e]; exact hc⟩, fun hne => ?_⟩
  obtain ⟨b', off', ha, hb, hx⟩ := hcc (by intro e0; subst e0; simp at hne)
  cases ha
  refine ⟨b, off + j * sz, rfl, hb, fun i x hi => ?_⟩
  rw [List.getElem?_drop] at hi
  obtain ⟨cs, h1, h2, h3⟩ := hx (j + i) x hi
  refine ⟨cs, h1, fun q u hu => ?_, h3⟩
  rw [← h2 q u hu]
  congr 2
  rw [Nat.add_mul]; omega
end Go.Proofs.Yteiemjebdhmnaaa
namespace Go.Proofs.Yteiemjebdhmnaaa
open Go Go.RowKit Go.Proofs

/-- One block more in a slice of blocks of the call's own. -/
theorem OB.snoc {eB eA lo : Nat} {w w' : World} {v v' : Value} {bs : List TB} {x : TB} (h : OB eB eA lo w v bs) (hg : w.grownBy w' v.ownBlock) (hb : v'.ownBlock = v.ownBlock ∨ v'.ownBlock = some w.heap.size)
    (ho : Own TB.enc eB 6 lo w' v' (bs ++ [x])) (hx : Own Actn.enc eA 4 lo w x.v x.l) (ax : Apart x.v v) (ap : ∀ y ∈ bs, Apart y.v x.v) : OB eB eA lo w' v' (bs ++ [x]) := by
  refine ⟨ho, fun y hy => ?_, ?_⟩
  · rcases List.mem_append.1 hy with hy | hy
    · obtain ⟨a1, a2⟩ := h.2.1 y hy
      exact ⟨a1.keep hg a2, Apart.grown a1 a2 (Nat.le_refl _) hb⟩
    · rw [List.mem_singleton] at hy; subst hy
      exact ⟨hx.keep hg ax, Apart.grown hx ax (Nat.le_refl _) hb⟩
  · rw [List.pairwise_append]
    refine ⟨h.2.2, List.pairwise_singleton _ _, fun y hy z hz => ?_⟩
    rw [List.mem_singleton] at hz; subst hz
    exact ap y hy
theorem keepRow0 {α : Type} {enc : α → List Value} {e sz lo rb : Nat} {w W1 w7 : World} {v : Value} {l : List α} {o r : Obj} (hG : w.grownBy W1 (some rb)) (hown : Own enc e sz lo W1 v l) (hlt : rb < lo) (hw : w.heap.size ≤ lo) (hr : W1.heap[rb]? = some r) (g8 : (W1.alloc o).grownBy w7 v.ownBlock) :
    w7.heap[rb]? = some r ∧ w.grownBy w7 (some rb) := by
  have hs : rb < W1.heap.size := (Array.getElem?_eq_some_iff.1 hr).1
  constructor
  · refine (g8.block rb (by simp; omega) (fun e => ?_)).trans ((heap_alloc_old W1 o hs).trans hr)
    rcases hown.ne_rb hlt with h | h
    · rw [h] at e; cases e
    · exact h e.symm
  · have hG2 := GB.alloc hG o
    refine ⟨g8.os.trans hG2.os, g8.tape.trans hG2.tape, g8.output.trans hG2.output, Nat.le_trans hG2.size g8.size, fun n hn hne => ?_⟩
    refine (g8.block n (Nat.lt_of_lt_of_le hn hG2.size) (fun e => ?_)).trans (hG2.block n hn hne)
    have := (World.ownsRow.lt hown n e.symm).1
    omega
/-- A tree's three slices, of the call's own, no two in one block. -/
structure OTA (eE eB eA eI lo : Nat) (w : World) (v0 v1 v2 : Value) (base : List Ent) (bs : List TB) (pr : List Int) : Prop where
  obase : Own Ent.enc eE 2 lo w v0 base
  obs : OB eB eA lo w v1 bs
  opr : Own encI eI 1 lo w v2 pr
  a01 : Apart v0 v1
  a21 : Apart v2 v1
  a02 : Apart v0 v2
  in0 : ∀ x ∈ bs, Apart x.v v0
  in2 : ∀ x ∈ bs, Apart x.v v2
theorem OTA.st {eE eB eA eI lo : Nat} {w : World} {v0 v1 v2 : Value} {base : List Ent} {bs : List TB} {pr : List Int} (h : OTA eE eB eA eI lo w v0 v1 v2 base bs pr) : ST w v0 v1 v2 ⟨base, bs.map TB.core, pr⟩ :=
  ⟨h.obase.sl Ent.enc_length, h.obs.sb, h.opr.sl encI_length⟩
theorem OTA.st' {eE eB eA eI lo : Nat} {w : World} {v0 v1 v2 : Value} {bs : List TB} {t : Tree} (h : OTA eE eB eA eI lo w v0 v1 v2 t.base bs t.pr) (hb : bs.map TB.core = t.bs) : ST w v0 v1 v2 t := by
  have := h.st
  rw [hb] at this
  exact this
theorem OTA.up {eE eB eA eI lo : Nat} {w w' : World} {v0 v1 v2 : Value} {base : List Ent} {bs : List TB} {pr : List Int} (h : OTA eE eB eA eI lo w v0 v1 v2 base bs pr) (hE : Ext w w') : OTA eE eB eA eI lo w' v0 v1 v2 base bs pr :=
  ⟨h.obase.up hE, h.obs.up hE, h.opr.up hE, h.a01, h.a21, h.a02, h.in0, h.in2⟩
theorem OTA.lo {eE eB eA eI lo lo' : Nat} {w : World} {v0 v1 v2 : Value} {base : List Ent} {bs : List TB} {pr : List Int} (h : OTA eE eB eA eI lo w v0 v1 v2 base bs pr) (hl : lo' ≤ lo) : OTA eE eB eA eI lo' w v0 v1 v2 base bs pr :=
  ⟨h.obase.lo hl, h.obs.lo hl, h.opr.lo hl, h.a01, h.a21, h.a02, h.in0, h.in2⟩
end Go.Proofs.Yteiemjebdhmnaaa
namespace Go.Proofs.Yteiemjebdhmnaaa
open Go Go.RowKit Go.Proofs

section
variable {eE eB eA eI lo : Nat} {w w' : World} {v0 v1 v2 : Value} {base : List Ent} {bs : List TB} {pr : List Int}
theorem off_row {α : Type} {enc : α → List Value} {e sz : Nat} {v : Value} {l : List α} (h : Own enc e sz lo w v l) {X : Nat} (hX : X < lo ∨ w.heap.size ≤ X) : v.ownBlock ≠ some X := by
  intro e
  have := World.ownsRow.lt h X e
  omega
theorem OTA.set (h : OTA eE eB eA eI lo w v0 v1 v2 base bs pr) {X : Nat} (i : Nat) (u : Value) (h0 : v0.ownBlock ≠ some X) (h1 : v1.ownBlock ≠ some X) (h2 : v2.ownBlock ≠ some X) (hb : ∀ x ∈ bs, x.v.ownBlock ≠ some X) :
    OTA eE eB eA eI lo (w.setCell ⟨X, i, none⟩ u) v0 v1 v2 base bs pr :=
  ⟨h.obase.setApart i u (.inr h0), ⟨h.obs.1.setApart i u (.inr h1), fun x hx => ⟨(h.obs.2.1 x hx).1.setApart i u (.inr (hb x hx)), (h.obs.2.1 x hx).2⟩, h.obs.2.2⟩, h.opr.setApart i u (.inr h2), h.a01, h.a21, h.a02, h.in0, h.in2⟩
theorem OTA.setOld (h : OTA eE eB eA eI lo w v0 v1 v2 base bs pr) (a : Addr) (u : Value) (hlt : a.block < lo) : OTA eE eB eA eI lo (w.setCell a u) v0 v1 v2 base bs pr :=
  ⟨h.obase.setOld a u hlt, h.obs.setOld a u hlt, h.opr.setOld a u hlt, h.a01, h.a21, h.a02, h.in0, h.in2⟩
theorem OTA.off (h : OTA eE eB eA eI lo w v0 v1 v2 base bs pr) {X : Nat} (hX : X < lo ∨ w.heap.size ≤ X) : v0.ownBlock ≠ some X ∧ v1.ownBlock ≠ some X ∧ v2.ownBlock ≠ some X ∧ ∀ x ∈ bs, x.v.ownBlock ≠ some X :=
  ⟨off_row h.obase hX, off_row h.obs.1 hX, off_row h.opr hX, fun x hx => off_row (h.obs.2.1 x hx).1 hX⟩
theorem OTA.new {α : Type} {enc : α → List Value} {e sz lo' : Nat} {w2 : World} {v : Value} {l : List α} (h : OTA eE eB eA eI lo w v0 v1 v2 base bs pr) (o : Own enc e sz lo' w2 v l) (hl : w.heap.size ≤ lo') : Apart v0 v ∧ Apart v1 v ∧ Apart v2 v ∧ ∀ x ∈ bs, Apart x.v v :=
  ⟨Apart.of_lt h.obase o hl, Apart.of_lt h.obs.1 o hl, Apart.of_lt h.opr o hl, fun x hx => Apart.of_lt (h.obs.2.1 x hx).1 o hl⟩
theorem OTA.snocB {v1' : Value} {x : TB} (h : OTA eE eB eA eI lo w v0 v1 v2 base bs pr) (hg : w.grownBy w' v1.ownBlock) (hb : v1'.ownBlock = v1.ownBlock ∨ v1'.ownBlock = some w.heap.size)
    (ho : Own TB.enc eB 6 lo w' v1' (bs ++ [x])) (hx : Own Actn.enc eA 4 lo w x.v x.l) (a0 : Apart v0 x.v) (a1 : Apart v1 x.v) (a2 : Apart v2 x.v) (ab : ∀ y ∈ bs, Apart y.v x.v) : OTA eE eB eA eI lo w' v0 v1' v2 base (bs ++ [x]) pr := by
  refine ⟨h.obase.keep hg h.a01, h.obs.snoc hg hb ho hx a1.symm ab, h.opr.keep hg h.a21, Apart.grown h.obase h.a01 (Nat.le_refl _) hb, Apart.grown h.opr h.a21 (Nat.le_refl _) hb, h.a02, fun y hy => ?_, fun y hy => ?_⟩
  · rcases List.mem_append.1 hy with hy | hy
    · exact h.in0 y hy
    · rw [List.mem_singleton] at hy; subst hy; exact a0.symm
  · rcases List.mem_append.1 hy with hy | hy
    · exact h.in2 y hy
    · rw [List.mem_singleton] at hy; subst hy; exact a2.symm
theorem OTA.snocI {v2' : Value} {n : Int} (h : OTA eE eB eA eI lo w v0 v1 v2 base bs pr) (hg : w.grownBy w' v2.ownBlock) (hb : v2'.ownBlock = v2.ownBlock ∨ v2'.ownBlock = some w.heap.size)
    (ho : Own encI eI 1 lo w' v2' (pr ++ [n])) : OTA eE eB eA eI lo w' v0 v1 v2' base bs (pr ++ [n]) := by
  refine ⟨h.obase.keep hg h.a02, ⟨h.obs.1.keep hg h.a21.symm, fun x hx => ⟨(h.obs.2.1 x hx).1.keep hg (h.in2 x hx), (h.obs.2.1 x hx).2⟩, h.obs.2.2⟩, ho, h.a01, ?_, Apart.grown h.obase h.a02 (Nat.le_refl _) hb, h.in0, fun x hx => Apart.grown (h.obs.2.1 x hx).1 (h.in2 x hx) (Nat.le_refl _) hb⟩
  exact (Apart.grown h.obs.1 h.a21.symm (Nat.le_refl _) hb).symm
theorem OTA.upR {rb : Nat} (h : OTA eE eB eA eI lo w v0 v1 v2 base bs pr) (hlt : rb < lo) (z : ExtR rb w) : OTA eE eB eA eI lo z.val v0 v1 v2 base bs pr :=
  ⟨h.obase.upR hlt z, ⟨h.obs.1.upR hlt z, fun x hx => ⟨(h.obs.2.1 x hx).1.upR hlt z, (h.obs.2.1 x hx).2⟩, h.obs.2.2⟩, h.opr.upR hlt z, h.a01, h.a21, h.a02, h.in0, h.in2⟩
theorem OT.ota {hi : Nat} (h : OT eE eB eA eI lo hi w v0 v1 v2 base bs pr) : OTA eE eB eA eI lo w v0 v1 v2 base bs pr := by
  obtain ⟨s1, s2, a, b, c, h1, h2, h3, h4, h5, h6, h7⟩ := h
  exact ⟨h1, h3.lo a, h6.lo (by omega), (h3.1.apartU h2 (Nat.le_refl _)).symm, h6.apartU h4 (Nat.le_refl _), (h6.apartU (h2.le b) (Nat.le_refl _)).symm, fun x hx => (h3.2.1 x hx).1.apartU h2 (Nat.le_refl _), fun x hx => (h6.apartU (h5 x hx) (Nat.le_refl _)).symm⟩
end
end Go.Proofs.Yteiemjebdhmnaaa
namespace Go.Proofs.Yteiemjebdhmnaaa
open Go Go.RowKit Go.Proofs

theorem S_of_gb {W w' : World} {rb : Nat} (h : W.grownBy w' (some rb)) : (∀ n i, ∀ [LtS n W] [NeS n rb], w'.cell? ⟨n, i, none⟩ = W.cell? ⟨n, i, none⟩) ∧ W.grownBy w' (some rb) := ⟨fun n i => (⟨w', h⟩ : ExtR rb W).cell n i, h⟩
theorem S_of_gbX {W w' : World} {rb G : Nat} (h : W.grownBy w' (some rb)) : ∀ n i, ∀ [LtS n W] [NeS n rb] [NeS n G], w'.cell? ⟨n, i, none⟩ = W.cell? ⟨n, i, none⟩ := fun n i => (⟨w', h⟩ : ExtR rb W).cell n i
theorem cell_setX (W : World) (G j : Nat) (a : Value) (n i : Nat) [h : NeS n G] : (W.setCell ⟨G, j, none⟩ a).cell? ⟨n, i, none⟩ = W.cell? ⟨n, i, none⟩ := by
  simp only [World.cell?, Below.heap_setCell W ⟨G, j, none⟩ a n h.ne]
/-- The tree in the box G while it grows; the result's box stands empty at the call's first number. -/
structure LT (eT eE eB eA eI rb G : Nat) (w wr : World) (u0 u1 u2 : Value) (t : Tree) (bs : List TB) : Prop where
  gb : w.grownBy wr (some rb)
  box : wr.heap[G]? = some (.cells #[u0, u1, u2] eT (0, 0))
  res : wr.heap[w.heap.size]? = some (.cells #[.slice none 0 0, .slice none 0 0, .slice none 0 0] eT (0, 0))
  ot : OTA eE eB eA eI (w.heap.size + 1) wr u0 u1 u2 t.base bs t.pr
  core : bs.map TB.core = t.bs
  ok : t.ok = true
  off : u0.ownBlock ≠ some G ∧ u1.ownBlock ≠ some G ∧ u2.ownBlock ≠ some G ∧ ∀ x ∈ bs, x.v.ownBlock ≠ some G
section
variable {eT eE eB eA eI rb G : Nat} {w wr : World} {u0 u1 u2 : Value} {t : Tree} {bs : List TB}
theorem LT.ltG (h : LT eT eE eB eA eI rb G w wr u0 u1 u2 t bs) : G < wr.heap.size := (Array.getElem?_eq_some_iff.1 h.box).1
theorem LT.ltR (h : LT eT eE eB eA eI rb G w wr u0 u1 u2 t bs) : w.heap.size < wr.heap.size := (Array.getElem?_eq_some_iff.1 h.res).1
theorem LT.st (h : LT eT eE eB eA eI rb G w wr u0 u1 u2 t bs) : ST wr u0 u1 u2 t := h.ot.st' h.core
theorem LT.upR (h : LT eT eE eB eA eI rb G w wr u0 u1 u2 t bs) (hrb : rb < w.heap.size) (hG : w.heap.size < G) (z : ExtR rb wr) : LT eT eE eB eA eI rb G w z.val u0 u1 u2 t bs :=
  ⟨grownBy_trans h.gb z.grown, (z.block h.ltG (by omega)).trans h.box, (z.block h.ltR (by omega)).trans h.res, h.ot.upR (by omega) z, h.core, h.ok, h.off⟩
theorem LT.up {w' : World} (h : LT eT eE eB eA eI rb G w wr u0 u1 u2 t bs) (hE : Ext wr w') : LT eT eE eB eA eI rb G w w' u0 u1 u2 t bs :=
  ⟨grownBy_trans h.gb (grownBy_ext hE), (hE.block h.ltG).trans h.box, (hE.block h.ltR).trans h.res, h.ot.up hE, h.core, h.ok, h.off⟩
theorem LT.setOff {B : Nat} (h : LT eT eE eB eA eI rb G w wr u0 u1 u2 t bs) (i : Nat) (u : Value) (hB : B ≠ G) (hR : w.heap.size < B) (hoff : u0.ownBlock ≠ some B ∧ u1.ownBlock ≠ some B ∧ u2.ownBlock ≠ some B ∧ ∀ x ∈ bs, x.v.ownBlock ≠ some B) :
    LT eT eE eB eA eI rb G w (wr.setCell ⟨B, i, none⟩ u) u0 u1 u2 t bs :=
  ⟨GB.setNew h.gb (by omega) i u, (Below.heap_setCell _ _ _ _ (Ne.symm hB)).trans h.box, (Below.heap_setCell _ _ _ _ (by dsimp only; omega)).trans h.res, h.ot.set i u hoff.1 hoff.2.1 hoff.2.2.1 hoff.2.2.2, h.core, h.ok, h.off⟩
theorem LT.put {lo : Nat} {y0 y1 y2 : Value} {t' : Tree} {bs' : List TB} (h : LT eT eE eB eA eI rb G w wr u0 u1 u2 t bs) (hG : w.heap.size < G) (ho : OTA eE eB eA eI lo wr y0 y1 y2 t'.base bs' t'.pr) (hlo : G < lo) (hc : bs'.map TB.core = t'.bs) (hk : t'.ok = true) :
    LT eT eE eB eA eI rb G w (((wr.setCell ⟨G, 0, none⟩ y0).setCell ⟨G, 1, none⟩ y1).setCell ⟨G, 2, none⟩ y2) y0 y1 y2 t' bs' := by
  have of := ho.off (X := G) (.inl hlo)
  refine ⟨GB.setNew (GB.setNew (GB.setNew h.gb (by omega) _ _) (by omega) _ _) (by omega) _ _, ?_, ?_, ?_, hc, hk, of⟩
  · exact (heap_setCell_same _ _ 2 _ _ _ ((heap_setCell_same _ _ 1 _ _ _ ((heap_setCell_same _ _ 0 _ _ _ h.box).trans rfl)).trans rfl)).trans rfl
  · exact (Below.heap_setCell _ _ _ _ (by dsimp only; omega)).trans ((Below.heap_setCell _ _ _ _ (by dsimp only; omega)).trans ((Below.heap_setCell _ _ _ _ (by dsimp only; omega)).trans h.res))
  · exact (((ho.set 0 y0 of.1 of.2.1 of.2.2.1 of.2.2.2).set 1 y1 of.1 of.2.1 of.2.2.1 of.2.2.2).set 2 y2 of.1 of.2.1 of.2.2.1 of.2.2.2).lo (by omega)
theorem LT.start {lo : Nat} {y0 y1 y2 : Value} (gb : w.grownBy wr (some rb)) (hres : wr.heap[w.heap.size]? = some (.cells #[.slice none 0 0, .slice none 0 0, .slice none 0 0] eT (0, 0))) (ho : OTA eE eB eA eI lo wr y0 y1 y2 t.base bs t.pr) (hlo : w.heap.size + 1 ≤ lo) (hc : bs.map TB.core = t.bs) (hk : t.ok = true) :
    LT eT eE eB eA eI rb wr.heap.size w (wr.alloc (.cells #[y0, y1, y2] eT)) y0 y1 y2 t bs := by
  have of := ho.off (X := wr.heap.size) (.inr (Nat.le_refl _))
  have hlt : w.heap.size < wr.heap.size := (Array.getElem?_eq_some_iff.1 hres).1
  exact ⟨GB.alloc gb _, heap_alloc_new _ _, (heap_alloc_old _ _ hlt).trans hres, (ho.up ((Ext.refl _).alloc _)).lo hlo, hc, hk, of⟩
/-- The tree's block number m, cell for cell. -/
theorem LT.blk (h : LT eT eE eB eA eI rb G w wr u0 u1 u2 t bs) (hrb : rb < w.heap.size) {m : Nat} (hm : m < t.bs.length) : ∃ (xb : Blk) (xl : List Actn) (pv : Option Addr) (cv : Nat) (b off c1 : Nat), u1 = .slice (some ⟨b, off, none⟩) t.bs.length c1 ∧ LtS b wr ∧ NeS b rb ∧ NeS b G ∧
    wr.cell? ⟨b, off + m * 6, none⟩ = some (.int .i64 xb.bf) ∧ wr.cell? ⟨b, off + m * 6 + 1, none⟩ = some (.int .i64 xb.ht) ∧ wr.cell? ⟨b, off + m * 6 + 2, none⟩ = some (.int .i64 xb.vw) ∧ wr.cell? ⟨b, off + m * 6 + 3, none⟩ = some (.slice pv xl.length cv) ∧ wr.cell? ⟨b, off + m * 6 + 4, none⟩ = some (.int .i64 xb.rt) ∧ wr.cell? ⟨b, off + m * 6 + 5, none⟩ = some (.int .i64 xb.ef) ∧
    Own Actn.enc eA 4 (w.heap.size + 1) wr (.slice pv xl.length cv) xl ∧ (Value.slice pv xl.length cv).ownBlock ≠ some G := by
  have hlen : bs.length = t.bs.length := by rw [← h.core, List.length_map]
  obtain ⟨x, hx⟩ := getElem?_some_of_lt (l := bs) (k := m) (by omega)
  obtain ⟨a, c1, hv, _, hc⟩ := (h.ot.obs.1.sl TB.enc_length).open
  obtain ⟨b, off, rfl, hb, hcell⟩ := hc m x hx
  have hmem := List.mem_of_getElem? hx
  have hown := (h.ot.obs.2.1 x hmem).1
  have hoffx := h.off.2.2.2 x hmem
  obtain ⟨xb, xv, xl⟩ := x
  obtain ⟨pv, cv, hpv, _, _⟩ := (hown.sl Actn.enc_length).openc
  simp only at hpv hown hoffx
  subst hpv
  have hrow : u1.ownBlock = some b := by rw [hv]; rfl
  refine ⟨xb, xl, pv, cv, b, off, c1, by rw [hv, hlen], hb, ⟨by have := (World.ownsRow.lt h.ot.obs.1 b hrow).1; omega⟩, ⟨fun e => h.off.2.1 (by rw [hrow, e])⟩, ?_, ?_, ?_, ?_, ?_, ?_, hown, hoffx⟩
  · simpa using hcell 0 _ rfl
  · exact hcell 1 _ rfl
  · exact hcell 2 _ rfl
  · exact hcell 3 _ rfl
  · exact hcell 4 _ rfl
  · exact hcell 5 _ rfl
end
theorem Rd.put {w0 w : World} {rb G : Nat} {lim : Int} (h : Rd w0 w rb lim) (y0 y1 y2 : Value) (hG : G ≠ rb) (h0 : w0.heap.size ≤ G) : Rd w0 (((w.setCell ⟨G, 0, none⟩ y0).setCell ⟨G, 1, none⟩ y1).setCell ⟨G, 2, none⟩ y2) rb lim :=
  ((h.set 0 y0 hG h0).set 1 y1 hG h0).set 2 y2 hG h0
end Go.Proofs.Yteiemjebdhmnaaa
namespace Go.Proofs.Yteiemjebdhmnaaa
open Go Go.RowKit Go.Proofs

theorem run_clone {P : Program} (w : World) (base : Nat) (t ty e : TypeId) (i : TypeInfo) (z : Value) (size bytes : Nat) (ht : P.underlying t = some (.slice e)) (hi : P.info? e = some i) (hz : i.zero = some z)
    (hsize : i.size = size) (hby : i.bytes = bytes) (hzs : z.cells.size = size) (hsz : 0 < size) (g : Nat) (hown : w.ownsRow base e size (.slice (some ⟨g, 0, none⟩) 0 0) 0 [])
    (a : Addr) (m c : Nat) (news : List Value) (hl : news.length = m * size) (hnews : ∀ j u, news[j]? = some u → w.cell? (a.add j) = some u) (h1 : ∀ u ∈ news, u.oneCell' = true)
    (h63 : m ≤ maxLen) (hbytes : m * bytes ≤ 140737488355328) (hbase : base ≤ w.heap.size) :
    ∃ v' w', (Builtin.append_ #[t, t] ty #[.slice (some ⟨g, 0, none⟩) 0 0, .slice (some a) m c]).run P w = .ok v' w' ∧ w'.ownsRow base e size v' m news ∧ Ext w w' ∧ (v'.ownBlock = some g ∨ v'.ownBlock = some w.heap.size) := by
  by_cases hm : m = 0
  · subst hm
    have hn : news = [] := List.eq_nil_of_length_eq_zero (by simpa using hl)
    subst hn
    refine ⟨_, w, ?_, hown, Ext.refl w, .inl rfl⟩
    simp [Builtin.append_, run_underlying ht, sizeOf, typeInfo, hi, Builtin.lenOf, Builtin.firstCells, loadCells, loadCellsFrom, storeCells]
  · obtain ⟨v', w', hr, h2, h3, h4, h5⟩ := run_append_own_at (P := P) w base t ty e i z size bytes ht hi hz hsize hby hzs hsz _ 0 [] hown a m c news hl hnews h1 (by omega) (by simpa using hbytes) hbase
    have hr2 := run_append_grow (P := P) w t ty e i z ht hi hz ⟨g, 0, none⟩ 0 0 [] (by simp) (by simp) a m c news (by rw [hsize]; exact hl) hnews (by omega) (by simp only [maxLen] at h63; omega) (growslice_fits (by omega) (by rw [hby]; simpa using hbytes))
    rw [hr] at hr2
    simp only [Result.ok.injEq] at hr2
    refine ⟨v', w', hr, by simpa using h2, ?_, ?_⟩
    · rw [hr2.2]; exact ((Ext.refl w).drew).alloc _
    · rw [hr2.1]; exact .inr rfl
theorem heap_alloc_at {W : World} {o : Obj} {g : Nat} (hg : g = W.heap.size) : (W.alloc o).heap[g]? = some o := by subst hg; exact heap_alloc_new _ _
theorem Extd.row_lt {W : World} (z : Extd W) {n : Nat} (h : n < W.heap.size) : z.val.heap[n]? = W.heap[n]? := z.ext.block h
theorem drew_row (W : World) (n : Nat) : W.drew.heap[n]? = W.heap[n]? := rfl
theorem own_lit0 {α : Type} {enc : α → List Value} {e sz lo g : Nat} {W : World} (hrow : W.heap[g]? = some (.cells #[] e (0, 0))) (hlo : lo ≤ g) : Own enc e sz lo W (.slice (some ⟨g, 0, none⟩) 0 0) [] :=
  ⟨by simp, .inr ⟨g, 0, #[], rfl, hlo, hrow, Nat.le_refl _, by decide, by simp, by simp⟩⟩
section
variable {P : Program} {t e sz bytes : Nat} (F : AppFacts P t e sz bytes) {α : Type} (enc : α → List Value) (he : ∀ x, (enc x).length = sz) {lo : Nat} {w : World} (ys : List α) {vx : Value} {g : Nat}
include F he
theorem clone_run (ty : TypeId) (hown : Own enc e sz lo w (.slice (some ⟨g, 0, none⟩) 0 0) []) (hys : SL (RF enc) sz w vx ys) (h1 : ∀ u ∈ ys.flatMap enc, u.oneCell' = true) (hb : ys.length * bytes ≤ 140737488355328) (hb' : ys.length ≤ 9223372036854775807) (hlo' : lo ≤ w.heap.size) :
    ∃ v' w', (Builtin.append_ #[t, t] ty #[.slice (some ⟨g, 0, none⟩) 0 0, vx]).run P w = .ok v' w' ∧ Own enc e sz lo w' v' ys ∧ Ext w w' ∧ (v'.ownBlock = some g ∨ v'.ownBlock = some w.heap.size) := by
  obtain ⟨i, z, hi, hz, hsize, hby, hzs⟩ := F.info
  have hown' : w.ownsRow lo e sz (.slice (some ⟨g, 0, none⟩) 0 0) 0 [] := hown
  obtain ⟨p, c, rfl, _, hc⟩ := hys.open
  rcases p with _ | ad
  · obtain rfl : ys = [] := by
      cases ys with
      | nil => rfl
      | cons y ys => obtain ⟨_, _, e2, _⟩ := hc 0 y rfl; cases e2
    exact ⟨_, w, run_append_none (P := P) (w := w) lo t ty e i sz F.und hi _ 0 c _ hown', hown, Ext.refl w, .inl rfl⟩
  · obtain ⟨v', w1, hr, h2, h3, h5⟩ := run_clone (P := P) w lo t ty e i z sz bytes F.und hi hz hsize hby hzs F.pos g hown' ad ys.length c (ys.flatMap enc) (flatMap_length he ys) (fun j u hu => by
      have hj := (List.getElem?_eq_some_iff.1 hu).1
      have h0 : 0 < ys.length := by
        cases ys with
        | nil => simp at hj
        | cons y ys => simp
      obtain ⟨y, hy⟩ := getElem?_some_of_lt (l := ys) (k := 0) h0
      obtain ⟨b, off, e2, _⟩ := hc 0 y hy
      cases e2
      have e1 : (⟨b, off, none⟩ : Addr).add j = ⟨b, off + j, none⟩ := by unfold Addr.add; split <;> simp_all
      rw [e1]
      exact SL.flatC he hys j u hu) h1 (by simpa [maxLen] using hb') hb hlo'
    exact ⟨v', w1, hr, h2, h3, h5⟩
theorem step_clone {ops : Array Oper} {o : Oper} {a : Act} {K : Act → World → Prop} {Q : Exit → Act → World → Prop} {E : Prop} (hw : Region.wanted o (yielded ops a.tmps) = true) (s x : Operand)
    (ho : o.op = .call { callee := .builtin .append, args := #[s, x], argTypes := #[t, t] }) (hs : a.eval s = .slice (some ⟨g, 0, none⟩) 0 0) (hx : a.eval x = vx) (hrow : w.heap[g]? = some (.cells #[] e (0, 0))) (hlo : lo ≤ g) (hys : SL (RF enc) sz w vx ys)
    (h1 : ∀ u ∈ ys.flatMap enc, u.oneCell' = true) (hb : ys.length * bytes ≤ 140737488355328) (hb' : ys.length ≤ 9223372036854775807)
    (h : ∀ v' (z1 : Extd w), Own enc e sz lo z1.val v' ys → (v'.ownBlock = some g ∨ v'.ownBlock = some w.heap.size) → K (a.put o.dst v') z1.val) :
    if Region.wanted o (yielded ops a.tmps) = true then Oper.wp P o a w K Q else E := by
  rw [if_pos hw]
  have hgl := (Array.getElem?_eq_some_iff.1 hrow).1
  obtain ⟨v', w1, hr, h2, h3, h5⟩ := clone_run F enc he ys o.type (own_lit0 (enc := enc) (sz := sz) hrow hlo) hys h1 hb hb' (by omega)
  unfold Oper.wp execOp
  simp only [ho, resolve, invoke, builtin, Sem.run_bind, Sem.run_pure, Result.andThen_ok, List.map_toArray, List.map_cons, List.map_nil, hs, hx, hr]
  exact h v' ⟨w1, h3⟩ h2 h5
theorem wpList_clone {ops : Array Oper} {rest : List Oper} {o : Oper} {a : Act} {Q : Exit → Act → World → Prop} (hgd : o.guard = none) (s x : Operand)
    (ho : o.op = .call { callee := .builtin .append, args := #[s, x], argTypes := #[t, t] }) (hs : a.eval s = .slice (some ⟨g, 0, none⟩) 0 0) (hx : a.eval x = vx) (hrow : w.heap[g]? = some (.cells #[] e (0, 0))) (hlo : lo ≤ g) (hys : SL (RF enc) sz w vx ys)
    (h1 : ∀ u ∈ ys.flatMap enc, u.oneCell' = true) (hb : ys.length * bytes ≤ 140737488355328) (hb' : ys.length ≤ 9223372036854775807)
    (h : ∀ v' (z1 : Extd w), Own enc e sz lo z1.val v' ys → (v'.ownBlock = some g ∨ v'.ownBlock = some w.heap.size) → wpList P ops Q rest (a.put o.dst v') z1.val) : wpList P ops Q (o :: rest) a w := by
  have hgl := (Array.getElem?_eq_some_iff.1 hrow).1
  obtain ⟨v', w1, hr, h2, h3, h5⟩ := clone_run F enc he ys o.type (own_lit0 (enc := enc) (sz := sz) hrow hlo) hys h1 hb hb' (by omega)
  refine wpList_plain hgd fun K hK => ?_
  unfold Oper.wp execOp
  simp only [ho, resolve, invoke, builtin, Sem.run_bind, Sem.run_pure, Result.andThen_ok, List.map_toArray, List.map_cons, List.map_nil, hs, hx, hr]
  exact hK _ _ (h v' ⟨w1, h3⟩ h2 h5)
end
end Go.Proofs.Yteiemjebdhmnaaa
