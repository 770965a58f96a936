/- Plain ground: append where other slices of the call's own lie beside: which block was written. -/
import Derived.Test.YtknohbdhbjppjaaSumL
import Derived.Maps.AppendAt
import Derived.Deep.AppendLies
namespace Go.Proofs.Ytknohbdhbjppjaa
open Go Go.RowKit

/-- Two slices share no block. -/
def Apart (v v' : Value) : Prop := v.ownBlock = none ∨ v.ownBlock ≠ v'.ownBlock
theorem Apart.symm {v v' : Value} (h : Apart v v') : Apart v' v := by
  unfold Apart at *
  cases hv : v'.ownBlock with
  | none => exact .inl rfl
  | some k =>
    right
    rcases h with h | h
    · rw [h]; simp
    · rw [hv] at h; exact fun e => h e.symm
theorem Apart.nil (v : Value) (n c : Nat) : Apart (.slice none n c) v := .inl rfl
theorem Apart.nil' (v : Value) (n c : Nat) : Apart v (.slice none n c) := (Apart.nil v n c).symm
/-- What was grown keeps what lies apart. -/
theorem Own.keep {α : Type} {enc : α → List Value} {e sz lo : Nat} {w w' : World} {v v0 : Value} {l : List α} (h : Own enc e sz lo w v l) (hg : w.grownBy w' v0.ownBlock) (ha : Apart v v0) : Own enc e sz lo w' v l := Own.kept h hg ha
/-- A slice that was there lies apart from what an append gives, if it lay apart from what was appended to. -/
theorem Apart.grown {α : Type} {enc : α → List Value} {e sz lo : Nat} {w : World} {v v0 v1 : Value} {l : List α} (h : Own enc e sz lo w v l) (ha : Apart v v0) {n : Nat} (hn : w.heap.size ≤ n) (hb : v1.ownBlock = v0.ownBlock ∨ v1.ownBlock = some n) : Apart v v1 := by
  unfold Apart at *
  rcases hb with hb | hb
  · rw [hb]; exact ha
  · cases hv : v.ownBlock with
    | none => exact .inl rfl
    | some k =>
      right; rw [hb]; intro e
      have := (World.ownsRow.lt h k hv).2
      simp only [Option.some.injEq] at e
      omega
/-- A slice made new lies apart from what was there. -/
theorem Apart.lit {α : Type} {enc : α → List Value} {e sz lo : Nat} {w : World} {v : Value} {l : List α} (h : Own enc e sz lo w v l) {g n c : Nat} (hg : w.heap.size ≤ g) : Apart v (.slice (some ⟨g, 0, none⟩) n c) := by
  unfold Apart
  cases hv : v.ownBlock with
  | none => exact .inl rfl
  | some k =>
    right; intro e
    have := (World.ownsRow.lt h k hv).2
    have e' : k = g := by simpa [Value.ownBlock] using e
    omega
theorem wpList_pushG {P : Program} {t e sz bytes : Nat} (F : AppFacts P t e sz bytes) {ops : Array Oper} {rest : List Oper} {o : Oper} {a : Act} {Q : Exit → Act → World → Prop} (hgd : o.guard = none) (s x : Operand)
    (ho : o.op = .call { callee := .builtin .append, args := #[s, x], argTypes := #[t, t] }) {α : Type} (enc : α → List Value) (he : ∀ x, (enc x).length = sz) (Wb : World) {lo : Nat} {W1 : World} {cs : Array Value} {e' : TypeId} (ys : List α) (l : List α) {v : Value} (hs : a.eval s = v)
    (hown : Own enc e sz lo W1 v l) (hE : Ext Wb W1) (hlo : Wb.heap.size ≤ lo) (hlo' : lo ≤ W1.heap.size) {g m c : Nat} (hx : a.eval x = .slice (some ⟨g, 0, none⟩) m c) (hm : m = ys.length) (hg : g = W1.heap.size) (hcs : cs.toList = ys.flatMap enc)
    (h1 : ∀ u ∈ ys.flatMap enc, u.oneCell' = true) (hb : (l.length + ys.length) * bytes ≤ 140737488355328) (hb' : l.length + ys.length ≤ 9223372036854775807)
    (h : ∀ v' (z1 : Extd Wb), Own enc e sz lo z1.val v' (l ++ ys) → (W1.alloc (.cells cs e')).grownBy z1.val v.ownBlock → (v'.ownBlock = v.ownBlock ∨ v'.ownBlock = some (W1.alloc (.cells cs e')).heap.size) → wpList P ops Q rest (a.put o.dst v') z1.val) : wpList P ops Q (o :: rest) a (W1.alloc (.cells cs e')) := by
  subst hg; subst hm
  obtain ⟨i, z, hi, hz, hsize, hby, hzs⟩ := F.info
  have hown' : (W1.alloc (.cells cs e')).ownsRow lo e sz v l.length (l.flatMap enc) := hown.up ((Ext.refl _).alloc _)
  have hE' := hE.alloc (.cells cs e')
  refine wpList_append_own_at _ hgd s x t ho lo e i z sz bytes F.und hi hz hsize hby hzs F.pos v l.length (l.flatMap enc) hs hown' ⟨W1.heap.size, 0, none⟩ ys.length c (ys.flatMap enc) hx (flatMap_length he ys) (fun j u hu => ?_) h1 (by simpa [maxLen] using hb') hb (by simp; omega) ?_
  · have e1 : (⟨W1.heap.size, 0, none⟩ : Addr).add j = ⟨W1.heap.size, j, none⟩ := by unfold Addr.add; split <;> simp_all
    rw [e1, cell_of_row _ W1.heap.size j cs e' (0, 0) (heap_alloc_new W1 _), ← Array.getElem?_toList, hcs]
    exact hu
  · intro v' w1 hown1 hg1 _ hblk
    refine h v' ⟨w1, hE'.grown hg1 fun k hk => Nat.le_trans hlo (World.ownsRow.lt hown' k hk).1⟩ ?_ hg1 hblk
    show w1.ownsRow _ _ _ _ _ _
    simpa [Own] using hown1
/-- .. in a region that draws its order: at whatever world that holds the new elements in block g. -/
theorem step_pushG {P : Program} {t e sz bytes : Nat} (F : AppFacts P t e sz bytes) {ops : Array Oper} {o : Oper} {a : Act} {K : Act → World → Prop} {Q : Exit → Act → World → Prop} {E : Prop} (hgd : o.guard = none) (s x : Operand)
    (ho : o.op = .call { callee := .builtin .append, args := #[s, x], argTypes := #[t, t] }) {α : Type} (enc : α → List Value) (he : ∀ x, (enc x).length = sz) (Wb : World) {lo : Nat} {W : World} {cs : Array Value} {e' : TypeId} {fr : Nat × Nat} (ys : List α) (l : List α) {v : Value} (hs : a.eval s = v)
    {g m c : Nat} (hx : a.eval x = .slice (some ⟨g, 0, none⟩) m c) (hg : W.heap[g]? = some (.cells cs e' fr)) (hown : Own enc e sz lo W v l) (hE : Ext Wb W) (hlo : Wb.heap.size ≤ lo) (hlo' : lo ≤ W.heap.size) (hm : m = ys.length) (hm0 : 0 < m) (hcs : cs.toList = ys.flatMap enc)
    (h1 : ∀ u ∈ ys.flatMap enc, u.oneCell' = true) (hb : (l.length + ys.length) * bytes ≤ 140737488355328) (hb' : l.length + ys.length ≤ 9223372036854775807)
    (h : ∀ v' (z1 : Extd Wb), Own enc e sz lo z1.val v' (l ++ ys) → W.grownBy z1.val v.ownBlock → (v'.ownBlock = v.ownBlock ∨ v'.ownBlock = some W.heap.size) → K (a.put o.dst v') z1.val) :
    if Region.wanted o (yielded ops a.tmps) = true then Oper.wp P o a W K Q else E := by
  subst hm
  obtain ⟨i, z, hi, hz, hsize, hby, hzs⟩ := F.info
  refine step_append_lies _ hgd s x t ho lo e i z sz bytes F.und hi hz hsize hby hzs F.pos v l.length (l.flatMap enc) hs hown ⟨g, 0, none⟩ ys.length c (ys.flatMap enc) hx (flatMap_length he ys) (fun j u hu => ?_) h1 hm0 (by simpa [maxLen] using hb') hb hlo' _ rfl ?_
  · have e1 : (⟨g, 0, none⟩ : Addr).add j = ⟨g, j, none⟩ := by unfold Addr.add; split <;> simp_all
    rw [e1, cell_of_row W g j cs e' fr hg, ← Array.getElem?_toList, hcs]
    exact hu
  · intro g cap w1 hown1 hg1 hblk _
    refine h _ ⟨w1, hE.grown hg1 fun k hk => Nat.le_trans hlo (World.ownsRow.lt hown k hk).1⟩ ?_ hg1 ?_
    · show w1.ownsRow _ _ _ _ _ _
      simpa [Own] using hown1
    · rcases hblk with hb1 | hb1
      · left; rw [hb1]; rfl
      · right; rw [hb1]; rfl
/-- Slices as elements. -/
def encV (v : Value) : List Value := [v]
theorem encV_length (v : Value) : (encV v).length = 1 := rfl
theorem Own.cellI {e lo g off n c : Nat} {w : World} {l : List Int} (h : Own encI e 1 lo w (.slice (some ⟨g, off, none⟩) n c) l) {j : Nat} {a : Int} (ha : l[j]? = some a) : w.cell? ⟨g, off + j, none⟩ = some (.int .i64 a) := by
  obtain ⟨p9, c9, e9, _, hc9⟩ := (h.sl encI_length).open
  cases e9
  obtain ⟨g4, off4, hp4, _, hca⟩ := hc9 j a ha
  cases hp4
  have := hca 0 _ rfl; simpa using this
/-- s[i:i+m]. -/
theorem SL.sub {α : Type} {R : World → List Value → α → Prop} {sz : Nat} {w : World} {b off n cap : Nat} {l : List α} (h : SL R sz w (.slice (some ⟨b, off, none⟩) n cap) l) {i m : Nat} (hi : i + m ≤ l.length) {cap' : Nat} (hc : m ≤ cap') : SL R sz w (.slice (some ⟨b, off + i * sz, none⟩) m cap') ((l.drop i).take m) := by
  obtain ⟨a', c', hv, hl, hcells⟩ := h
  cases hv
  have e : ((l.drop i).take m).length = m := by rw [List.length_take, List.length_drop]; omega
  refine ⟨_, cap', by rw [e], ⟨by rw [e]; omega, by rw [e]; exact hc⟩, fun hne => ?_⟩
  obtain ⟨b', off', ha, hb, hx⟩ := hcells (by intro e0; subst e0; simp at hne)
  cases ha
  refine ⟨b, off + i * sz, rfl, hb, fun j x hj => ?_⟩
  have hjm : j < m := by have := (List.getElem?_eq_some_iff.1 hj).1; omega
  rw [List.getElem?_take_of_lt hjm, List.getElem?_drop] at hj
  obtain ⟨cs, h1, h2, h3⟩ := hx _ x hj
  refine ⟨cs, h1, fun q u hu => ?_, h3⟩
  have := h2 q u hu
  rwa [Nat.add_mul, ← Nat.add_assoc] at this
end Go.Proofs.Ytknohbdhbjppjaa
