/- Plain laws: sums of blocks. -/
import Derived.Test.YtknohbdhbjppjaaStoL
import Derived.Test.YtknohbdhbjppjaaActL
import Derived.Test.YtknohbdhbjppjaaPush
import Derived.Deep.AppendLies
namespace Go.Proofs.Ytknohbdhbjppjaa
open Go Go.RowKit

theorem summed_iff {l : List Int} : summed l = true ↔ ∀ n ∈ l, 0 ≤ n ∧ n ≤ 2000000 := by simp [summed, inR_iff]
theorem summed_at {l : List Int} (h : summed l = true) {k : Nat} {n : Int} (hn : l[k]? = some n) : 0 ≤ n ∧ n ≤ 2000000 := summed_iff.1 h n (List.mem_of_getElem? hn)
theorem sumOf_yes {tag : Int} {l : List Int} (h0 : 0 ≤ tag) (h9 : tag ≤ 9) (h : summed l = true) : sumOf tag l = sumL (17 + tag) l := by
  unfold sumOf; rw [if_pos (by simp [h, inR]; omega)]
theorem sumOf_no {tag : Int} {l : List Int} (h : summed l = false) : sumOf tag l = -1 := by unfold sumOf; rw [if_neg (by simp [h])]
theorem sumOf_tag {tag : Int} {l : List Int} (h : inR tag 0 9 = false) : sumOf tag l = -1 := by unfold sumOf; rw [if_neg (by simp [h])]
theorem sumTo_in {tag : Int} (h0 : 0 ≤ tag) (h9 : tag ≤ 9) (l : List Int) : 0 ≤ sumL (17 + tag) l ∧ sumL (17 + tag) l < 1000003 := sumL_in (by omega) (by omega) l
def aNums (l : List Actn) : List Int := l.flatMap fun x => [x.kind, x.src, x.dst, x.amt]
theorem aNums_snoc {l : List Actn} {k : Nat} {x : Actn} (h : l[k]? = some x) : aNums (l.take (k + 1)) = aNums (l.take k) ++ [x.kind, x.src, x.dst, x.amt] := by
  rw [List.take_add_one, h]; simp [aNums]
theorem aNums_length (l : List Actn) : (aNums l).length = 4 * l.length := by
  induction l with
  | nil => rfl
  | cons x l ih => simp [aNums, List.flatMap_cons] at *; omega
theorem Actn.ok_kind {x : Actn} (h : x.ok = true) : 1 ≤ x.kind ∧ x.kind ≤ 6 := by
  simp only [Actn.ok, Bool.and_eq_true] at h
  have := h.2.2.2
  unfold kindOk at this
  split at this
  · omega
  · split at this
    · omega
    · simp at this; omega
theorem aNums_summed {l : List Actn} (h : ∀ x ∈ l, x.ok = true) : summed (aNums l) = true := by
  rw [summed_iff]
  intro n hn
  simp only [aNums, List.mem_flatMap] at hn
  obtain ⟨x, hx, hn⟩ := hn
  have h1 := h x hx
  have h2 := Actn.ok_kind h1
  simp only [Actn.ok, Bool.and_eq_true, inR_iff] at h1
  simp at hn
  omega
theorem summed_append {a b : List Int} (h : summed a = true) (h' : summed b = true) : summed (a ++ b) = true := by
  rw [summed_iff] at *; intro n hn; rcases List.mem_append.1 hn with h1 | h1
  · exact h n h1
  · exact h' n h1
/-- append of several elements just built. -/
theorem wpList_pushL {P : Program} {t e sz bytes : Nat} (F : AppFacts P t e sz bytes) {ops : Array Oper} {rest : List Oper} {o : Oper} {a : Act} {Q : Exit → Act → World → Prop} (hgd : o.guard = none) (s x : Operand)
    (ho : o.op = .call { callee := .builtin .append, args := #[s, x], argTypes := #[t, t] }) {α : Type} (enc : α → List Value) (he : ∀ x, (enc x).length = sz) (Wb : World) {W1 : World} {cs : Array Value} {e' : TypeId} (ys : List α) (l : List α) {v : Value} (hs : a.eval s = v)
    (hown : Own enc e sz Wb.heap.size W1 v l) (hE : Ext Wb W1) {g m c : Nat} (hx : a.eval x = .slice (some ⟨g, 0, none⟩) m c) (hm : m = ys.length) (hg : g = W1.heap.size) (hcs : cs.toList = ys.flatMap enc)
    (h1 : ∀ u ∈ ys.flatMap enc, u.oneCell' = true) (hb : (l.length + ys.length) * bytes ≤ 140737488355328) (hb' : l.length + ys.length ≤ 9223372036854775807)
    (h : ∀ v' (z1 : Extd Wb), Own enc e sz Wb.heap.size z1.val v' (l ++ ys) → wpList P ops Q rest (a.put o.dst v') z1.val) : wpList P ops Q (o :: rest) a (W1.alloc (.cells cs e')) := by
  subst hg; subst hm
  obtain ⟨i, z, hi, hz, hsize, hby, hzs⟩ := F.info
  have hown' : (W1.alloc (.cells cs e')).ownsRow Wb.heap.size e sz v l.length (l.flatMap enc) := hown.up ((Ext.refl _).alloc _)
  have hE' := hE.alloc (.cells cs e')
  refine wpList_append_own _ hgd s x t ho Wb.heap.size e i z sz bytes F.und hi hz hsize hby hzs F.pos v l.length (l.flatMap enc) hs hown' ⟨W1.heap.size, 0, none⟩ ys.length c (ys.flatMap enc) hx (flatMap_length he ys) (fun j u hu => ?_) h1 (by simpa [maxLen] using hb') hb hE'.size ?_
  · have e1 : (⟨W1.heap.size, 0, none⟩ : Addr).add j = ⟨W1.heap.size, j, none⟩ := by unfold Addr.add; split <;> simp_all
    rw [e1, cell_of_row _ W1.heap.size j cs e' (0, 0) (heap_alloc_new W1 _), ← Array.getElem?_toList, hcs]
    exact hu
  · intro v' w1 hown1 hg1 _
    refine h v' ⟨w1, hE'.grown hg1 fun k hk => (World.ownsRow.lt hown' k hk).1⟩ ?_
    show w1.ownsRow _ _ _ _ _ _
    simpa [Own] using hown1
/-- .. in a region that draws its order. -/
theorem step_pushL {P : Program} {t e sz bytes : Nat} (F : AppFacts P t e sz bytes) {ops : Array Oper} {o : Oper} {a : Act} {K : Act → World → Prop} {Q : Exit → Act → World → Prop} {E : Prop} (hgd : o.guard = none) (s x : Operand)
    (ho : o.op = .call { callee := .builtin .append, args := #[s, x], argTypes := #[t, t] }) {α : Type} (enc : α → List Value) (he : ∀ x, (enc x).length = sz) (Wb : World) {W1 : World} {cs : Array Value} {e' : TypeId} (ys : List α) (l : List α) {v : Value} (hs : a.eval s = v)
    (hown : Own enc e sz Wb.heap.size W1 v l) (hE : Ext Wb W1) {g m c : Nat} (hx : a.eval x = .slice (some ⟨g, 0, none⟩) m c) (hm : m = ys.length) (hm0 : 0 < m) (hg : g = W1.heap.size) (hcs : cs.toList = ys.flatMap enc)
    (h1 : ∀ u ∈ ys.flatMap enc, u.oneCell' = true) (hb : (l.length + ys.length) * bytes ≤ 140737488355328) (hb' : l.length + ys.length ≤ 9223372036854775807)
    (h : ∀ v' (z1 : Extd Wb), Own enc e sz Wb.heap.size z1.val v' (l ++ ys) → K (a.put o.dst v') z1.val) :
    if Region.wanted o (yielded ops a.tmps) = true then Oper.wp P o a (W1.alloc (.cells cs e')).drew K Q else E := by
  subst hg; subst hm
  obtain ⟨i, z, hi, hz, hsize, hby, hzs⟩ := F.info
  have hown' : (W1.alloc (.cells cs e')).drew.ownsRow Wb.heap.size e sz v l.length (l.flatMap enc) := hown.up ((Ext.refl _).alloc _).drew
  have hE' := (hE.alloc (.cells cs e')).drew
  refine step_append_lies _ hgd s x t ho Wb.heap.size e i z sz bytes F.und hi hz hsize hby hzs F.pos v l.length (l.flatMap enc) hs hown' ⟨W1.heap.size, 0, none⟩ ys.length c (ys.flatMap enc) hx (flatMap_length he ys) (fun j u hu => ?_) h1 hm0 (by simpa [maxLen] using hb') hb hE'.size _ rfl ?_
  · have e1 : (⟨W1.heap.size, 0, none⟩ : Addr).add j = ⟨W1.heap.size, j, none⟩ := by unfold Addr.add; split <;> simp_all
    rw [e1, cell_of_row (W1.alloc (.cells cs e')).drew W1.heap.size j cs e' (0, 0) (heap_alloc_new W1 _), ← Array.getElem?_toList, hcs]
    exact hu
  · intro g cap w1 hown1 hg1 _ _
    refine h _ ⟨w1, hE'.grown hg1 fun k hk => (World.ownsRow.lt hown' k hk).1⟩ ?_
    show w1.ownsRow _ _ _ _ _ _
    simpa [Own] using hown1
theorem oneIs (l : List Int) : ∀ u ∈ l.flatMap encI, u.oneCell' = true := by
  intro u hu
  obtain ⟨x, _, h⟩ := List.mem_flatMap.1 hu
  exact oneI x u h
end Go.Proofs.Ytknohbdhbjppjaa
