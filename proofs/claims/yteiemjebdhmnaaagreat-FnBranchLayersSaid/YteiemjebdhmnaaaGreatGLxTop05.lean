/- Plain ground: append where other slices of the call's own lie beside: which block was written. Plain laws: trees of blocks, as lists; slices of blocks in memory. Plain ground: worlds in which some blocks have turned; rows of blocks. The decoder of the laws' trees. Plain ground: arrays of numbers, one block each. -/
import Derived.Test.YteiemjebdhmnaaaGreatGLxTop03
import Derived.Maps.AppendAt
import Derived.Deep.AppendLies
import Derived.Test.YteiemjebdhmnaaaGreatGLxTop04
import Derived.Test.YteiemjebdhmnaaaGreatGLxTop02
import Derived.Laws.Rows
set_option linter.unusedSimpArgs false
set_option linter.unusedVariables false
namespace Go.Proofs.YteiemjebdhmnaaaGreat
open Go Go.RowKit

/-- Two slices share no block. -/
def Apart (v v' : Value) : Prop := v.ownBlock = none ∨ v.ownBlock ≠ v'.ownBlock
theorem Apart.symm {v v' : Value} (h : Apart v v') : Apart v' v := by
  unfold Apart at *
  cases hv : v'.ownBlock with
  | none => exact .inl rfl
  | some k =>
    right
    rcases h with h | h
    · rw [h]; simp
    · rw [hv] at h; exact fun e => h e.symm
theorem Apart.nil (v : Value) (n c : Nat) : Apart (.slice none n c) v := .inl rfl
theorem Apart.nil' (v : Value) (n c : Nat) : Apart v (.slice none n c) := (Apart.nil v n c).symm
/-- What was grown keeps what lies apart. -/
theorem Own.keep {α : Type} {enc : α → List Value} {e sz lo : Nat} {w w' : World} {v v0 : Value} {l : List α} (h : Own enc e sz lo w v l) (hg : w.grownBy w' v0.ownBlock) (ha : Apart v v0) : Own enc e sz lo w' v l := Own.kept h hg ha
/-- A slice that was there lies apart from what an append gives, if it lay apart from what was appended to. -/
theorem Apart.grown {α : Type} {enc : α → List Value} {e sz lo : Nat} {w : World} {v v0 v1 : Value} {l : List α} (h : Own enc e sz lo w v l) (ha : Apart v v0) {n : Nat} (hn : w.heap.size ≤ n) (hb : v1.ownBlock = v0.ownBlock ∨ v1.ownBlock = some n) : Apart v v1 := by
  unfold Apart at *
  rcases hb with hb | hb
  · rw [hb]; exact ha
  · cases hv : v.ownBlock with
    | none => exact .inl rfl
    | some k =>
      right; rw [hb]; intro e
      have := (World.ownsRow.lt h k hv).2
      simp only [Option.some.injEq] at e
      omega
/-- A slice made new lies apart from what was there. -/
theorem Apart.lit {α : Type} {enc : α → List Value} {e sz lo : Nat} {w : World} {v : Value} {l : List α} (h : Own enc e sz lo w v l) {g n c : Nat} (hg : w.heap.size ≤ g) : Apart v (.slice (some ⟨g, 0, none⟩) n c) := by
  unfold Apart
  cases hv : v.ownBlock with
  | none => exact .inl rfl
  | some k =>
    right; intro e
    have := (World.ownsRow.lt h k hv).2
    have e' : k = g := by simpa [Value.ownBlock] using e
    omega
theorem wpList_pushG {P : Program} {t e sz bytes : Nat} (F : AppFacts P t e sz bytes) {ops : Array Oper} {rest : List Oper} {o : Oper} {a : Act} {Q : Exit → Act → World → Prop} (hgd : o.guard = none) (s x : Operand)
    (ho : o.op = .call { callee := .builtin .append, args := #[s, x], argTypes := #[t, t] }) {α : Type} (enc : α → List Value) (he : ∀ x, (enc x).length = sz) (Wb : World) {lo : Nat} {W1 : World} {cs : Array Value} {e' : TypeId} (ys : List α) (l : List α) {v : Value} (hs : a.eval s = v)
    (hown : Own enc e sz lo W1 v l) (hE : Ext Wb W1) (hlo : Wb.heap.size ≤ lo) (hlo' : lo ≤ W1.heap.size) {g m c : Nat} (hx : a.eval x = .slice (some ⟨g, 0, none⟩) m c) (hm : m = ys.length) (hg : g = W1.heap.size) (hcs : cs.toList = ys.flatMap enc)
    (h1 : ∀ u ∈ ys.flatMap enc, u.oneCell' = true) (hb : (l.length + ys.length) * bytes ≤ 140737488355328) (hb' : l.length + ys.length ≤ 9223372036854775807)
    (h : ∀ v' (z1 : Extd Wb), Own enc e sz lo z1.val v' (l ++ ys) → (W1.alloc (.cells cs e')).grownBy z1.val v.ownBlock → (v'.ownBlock = v.ownBlock ∨ v'.ownBlock = some (W1.alloc (.cells cs e')).heap.size) → wpList P ops Q rest (a.put o.dst v') z1.val) : wpList P ops Q (o :: rest) a (W1.alloc (.cells cs e')) := by
  subst hg; subst hm
  obtain ⟨i, z, hi, hz, hsize, hby, hzs⟩ := F.info
  have hown' : (W1.alloc (.cells cs e')).ownsRow lo e sz v l.length (l.flatMap enc) := hown.up ((Ext.refl _).alloc _)
  have hE' := hE.alloc (.cells cs e')
  refine wpList_append_own_at _ hgd s x t ho lo e i z sz bytes F.und hi hz hsize hby hzs F.pos v l.length (l.flatMap enc) hs hown' ⟨W1.heap.size, 0, none⟩ ys.length c (ys.flatMap enc) hx (flatMap_length he ys) (fun j u hu => ?_) h1 (by simpa [maxLen] using hb') hb (by simp; omega) ?_
  · have e1 : (⟨W1.heap.size, 0, none⟩ : Addr).add j = ⟨W1.heap.size, j, none⟩ := by unfold Addr.add; split <;> simp_all
    rw [e1, cell_of_row _ W1.heap.size j cs e' (0, 0) (heap_alloc_new W1 _), ← Array.getElem?_toList, hcs]
    exact hu
  · intro v' w1 hown1 hg1 _ hblk
    refine h v' ⟨w1, hE'.grown hg1 fun k hk => Nat.le_trans hlo (World.ownsRow.lt hown' k hk).1⟩ ?_ hg1 hblk
    show w1.ownsRow _ _ _ _ _ _
    simpa [Own] using hown1
/-- .. in a region that draws its order: at whatever world that holds the new elements in block g. -/
theorem step_pushG {P : Program} {t e sz bytes : Nat} (F : AppFacts P t e sz bytes) {ops : Array Oper} {o : Oper} {a : Act} {K : Act → World → Prop} {Q : Exit → Act → World → Prop} {E : Prop} (hgd : o.guard = none) (s x : Operand)
    (ho : o.op = .call { callee := .builtin .append, args := #[s, x], argTypes := #[t, t] }) {α : Type} (enc : α → List Value) (he : ∀ x, (enc x).length = sz) (Wb : World) {lo : Nat} {W : World} {cs : Array Value} {e' : TypeId} {fr : Nat × Nat} (ys : List α) (l : List α) {v : Value} (hs : a.eval s = v)
    {g m c : Nat} (hx : a.eval x = .slice (some ⟨g, 0, none⟩) m c) (hg : W.heap[g]? = some (.cells cs e' fr)) (hown : Own enc e sz lo W v l) (hE : Ext Wb W) (hlo : Wb.heap.size ≤ lo) (hlo' : lo ≤ W.heap.size) (hm : m = ys.length) (hm0 : 0 < m) (hcs : cs.toList = ys.flatMap enc)
    (h1 : ∀ u ∈ ys.flatMap enc, u.oneCell' = true) (hb : (l.length + ys.length) * bytes ≤ 140737488355328) (hb' : l.length + ys.length ≤ 9223372036854775807)
    (h : ∀ v' (z1 : Extd Wb), Own enc e sz lo z1.val v' (l ++ ys) → W.grownBy z1.val v.ownBlock → (v'.ownBlock = v.ownBlock ∨ v'.ownBlock = some W.heap.size) → K (a.put o.dst v') z1.val) :
    if Region.wanted o (yielded ops a.tmps) = true then Oper.wp P o a W K Q else E := by
  subst hm
  obtain ⟨i, z, hi, hz, hsize, hby, hzs⟩ := F.info
  refine step_append_lies _ hgd s x t ho lo e i z sz bytes F.und hi hz hsize hby hzs F.pos v l.length (l.flatMap enc) hs hown ⟨g, 0, none⟩ ys.length c (ys.flatMap enc) hx (flatMap_length he ys) (fun j u hu => ?_) h1 hm0 (by simpa [maxLen] using hb') hb hlo' _ rfl ?_
  · have e1 : (⟨g, 0, none⟩ : Addr).add j = ⟨g, j, none⟩ := by unfold Addr.add; split <;> simp_all
    rw [e1, cell_of_row W g j cs e' fr hg, ← Array.getElem?_toList, hcs]
    exact hu
  · intro g cap w1 hown1 hg1 hblk _
    refine h _ ⟨w1, hE.grown hg1 fun k hk => Nat.le_trans hlo (World.ownsRow.lt hown k hk).1⟩ ?_ hg1 ?_
    · show w1.ownsRow _ _ _ _ _ _
      simpa [Own] using hown1
    · rcases hblk with hb1 | hb1
      · left; rw [hb1]; rfl
      · right; rw [hb1]; rfl
/-- Slices as elements. -/
def encV (v : Value) : List Value := [v]
theorem encV_length (v : Value) : (encV v).length = 1 := rfl
theorem Own.cellI {e lo g off n c : Nat} {w : World} {l : List Int} (h : Own encI e 1 lo w (.slice (some ⟨g, off, none⟩) n c) l) {j : Nat} {a : Int} (ha : l[j]? = some a) : w.cell? ⟨g, off + j, none⟩ = some (.int .i64 a) := by
  obtain ⟨p9, c9, e9, _, hc9⟩ := (h.sl encI_length).open
  cases e9
  obtain ⟨g4, off4, hp4, _, hca⟩ := hc9 j a ha
  cases hp4
  have := hca 0 _ rfl; simpa using this
/-- s[i:i+m]. -/
theorem SL.sub {α : Type} {R : World → List Value → α → Prop} {sz : Nat} {w : World} {b off n cap : Nat} {l : List α} (h : SL R sz w (.slice (some ⟨b, off, none⟩) n cap) l) {i m : Nat} (hi : i + m ≤ l.length) {cap' : Nat} (hc : m ≤ cap') : SL R sz w (.slice (some ⟨b, off + i * sz, none⟩) m cap') ((l.drop i).take m) := by
  obtain ⟨a', c', hv, hl, hcells⟩ := h
  cases hv
  have e : ((l.drop i).take m).length = m := by rw [List.length_take, List.length_drop]; omega
  refine ⟨_, cap', by rw [e], ⟨by rw [e]; omega, by rw [e]; exact hc⟩, fun hne => ?_⟩
  obtain ⟨b', off', ha, hb, hx⟩ := hcells (by intro e0; subst e0; simp at hne)
  cases ha
  refine ⟨b, off + i * sz, rfl, hb, fun j x hj => ?_⟩
  have hjm : j < m := by have := (List.getElem?_eq_some_iff.1 hj).1; omega
  rw [List.getElem?_take_of_lt hjm, List.getElem?_drop] at hj
  obtain ⟨cs, h1, h2, h3⟩ := hx _ x hj
  refine ⟨cs, h1, fun q u hu => ?_, h3⟩
  have := h2 q u hu
  rwa [Nat.add_mul, ← Nat.add_assoc] at this
end Go.Proofs.YteiemjebdhmnaaaGreat
namespace Go.Proofs.YteiemjebdhmnaaaGreat
open Go Go.RowKit

/-! ### Slices of blocks -/
structure TB where
  b : Blk
  v : Value
  l : List Actn
def TB.enc (x : TB) : List Value := [.int .i64 x.b.bf, .int .i64 x.b.ht, .int .i64 x.b.vw, x.v, .int .i64 x.b.rt, .int .i64 x.b.ef]
theorem TB.enc_length (x : TB) : x.enc.length = 6 := rfl
abbrev BL := Blk × List Actn
def TB.core (x : TB) : BL := (x.b, x.l)
def SB (w : World) (v : Value) (cs : List BL) : Prop := ∃ bs : List TB, cs = bs.map TB.core ∧ SL (RF TB.enc) 6 w v bs ∧ ∀ x ∈ bs, SL (RF Actn.enc) 4 w x.v x.l
theorem SB.up {w w' : World} {v : Value} {cs : List BL} (h : SB w v cs) (hE : Ext w w') : SB w' v cs := by
  obtain ⟨bs, h1, h2, h3⟩ := h
  exact ⟨bs, h1, h2.up hE, fun x hx => (h3 x hx).up hE⟩
theorem SB.open {w : World} {v : Value} {cs : List BL} (h : SB w v cs) : ∃ a cap, v = .slice a cs.length cap ∧ cs.length ≤ 9223372036854775807 ∧ cs.length ≤ cap ∧ ∀ (k : Nat) x, cs[k]? = some x → ∃ b off p c, a = some ⟨b, off, none⟩ ∧ LtS b w ∧
    w.cell? ⟨b, off + k * 6, none⟩ = some (.int .i64 x.1.bf) ∧ w.cell? ⟨b, off + k * 6 + 1, none⟩ = some (.int .i64 x.1.ht) ∧ w.cell? ⟨b, off + k * 6 + 2, none⟩ = some (.int .i64 x.1.vw) ∧
    w.cell? ⟨b, off + k * 6 + 3, none⟩ = some (.slice p x.2.length c) ∧ w.cell? ⟨b, off + k * 6 + 4, none⟩ = some (.int .i64 x.1.rt) ∧ w.cell? ⟨b, off + k * 6 + 5, none⟩ = some (.int .i64 x.1.ef) ∧ SL (RF Actn.enc) 4 w (.slice p x.2.length c) x.2 := by
  obtain ⟨bs, rfl, h2, h3⟩ := h
  obtain ⟨a, cap, rfl, hl, hcap⟩ := h2.openc
  obtain ⟨a', cap', e', _, hc⟩ := h2.open
  cases e'
  refine ⟨a, cap, by rw [List.length_map], by rw [List.length_map]; exact hl, by rw [List.length_map]; exact hcap, fun k x hx => ?_⟩
  rw [List.getElem?_map, Option.map_eq_some_iff] at hx
  obtain ⟨y, hy, rfl⟩ := hx
  obtain ⟨b, off, ha, hb, hcc⟩ := hc k y hy
  have hs := h3 y (List.mem_of_getElem? hy)
  obtain ⟨p, c, hv, _, _⟩ := hs.openc
  have hd : w.cell? ⟨b, off + k * 6 + 3, none⟩ = some y.v := hcc 3 _ rfl
  rw [hv] at hd hs
  exact ⟨b, off, p, c, ha, hb, hcc 0 _ rfl, hcc 1 _ rfl, hcc 2 _ rfl, hd, hcc 4 _ rfl, hcc 5 _ rfl, hs⟩
theorem SB.openc {w : World} {v : Value} {cs : List BL} (h : SB w v cs) : ∃ a cap, v = .slice a cs.length cap ∧ cs.length ≤ 9223372036854775807 ∧ cs.length ≤ cap := by
  obtain ⟨a, cap, h1, h2, h3, _⟩ := h.open
  exact ⟨a, cap, h1, h2, h3⟩
/-- Blocks of the call's own. -/
def OB (eB eA lo : Nat) (w : World) (v : Value) (bs : List TB) : Prop := Own TB.enc eB 6 lo w v bs ∧ (∀ x ∈ bs, Own Actn.enc eA 4 lo w x.v x.l ∧ Apart x.v v) ∧ bs.Pairwise (fun x y => Apart x.v y.v)
theorem OB.sb {eB eA lo : Nat} {w : World} {v : Value} {bs : List TB} (h : OB eB eA lo w v bs) : SB w v (bs.map TB.core) := ⟨bs, rfl, h.1.sl TB.enc_length, fun x hx => (h.2.1 x hx).1.sl Actn.enc_length⟩
theorem OB.up {eB eA lo : Nat} {w w' : World} {v : Value} {bs : List TB} (h : OB eB eA lo w v bs) (hE : Ext w w') : OB eB eA lo w' v bs := ⟨h.1.up hE, fun x hx => ⟨(h.2.1 x hx).1.up hE, (h.2.1 x hx).2⟩, h.2.2⟩

/-! ### Trees -/
structure Tree where
  base : List Ent
  bs : List BL
  pr : List Int
def totA (cs : List BL) : Nat := (cs.map fun x => x.2.length).sum
theorem totA_snoc {cs : List BL} {k : Nat} {x : BL} (h : cs[k]? = some x) : totA (cs.take (k + 1)) = totA (cs.take k) + x.2.length := by
  rw [List.take_add_one, h]; simp [totA]
theorem totA_mem {cs : List BL} {x : BL} (h : x ∈ cs) : x.2.length ≤ totA cs := by
  unfold totA
  induction cs with
  | nil => cases h
  | cons y cs ih =>
    rw [List.map_cons, List.sum_cons]
    rcases List.mem_cons.1 h with rfl | h
    · omega
    · have := ih h; omega
theorem totA_le (cs : List BL) (k : Nat) : totA (cs.take k) ≤ totA cs := by
  unfold totA
  conv => rhs; rw [← List.take_append_drop k cs]
  rw [List.map_append, List.sum_append]; omega
/-- The first block's fields. -/
def firstB (s : List Ent) : Blk := if entsOk 1 s = true then ⟨0, 0, 0, rootOf s, 21⟩ else ⟨0, 0, 0, 0, 0⟩
theorem firstB_yes {s : List Ent} (h : entsOk 1 s = true) : firstB s = ⟨0, 0, 0, rootOf s, 21⟩ := by unfold firstB; rw [if_pos h]
theorem firstB_no {s : List Ent} (h : entsOk 1 s = false) : firstB s = ⟨0, 0, 0, 0, 0⟩ := by unfold firstB; rw [if_neg (by simp [h])]
def sameF (x : BL) (f : Blk) : Bool := ((x.1.bf == f.bf) && ((x.1.ht == f.ht) && ((x.1.vw == f.vw) && ((x.1.rt == f.rt) && ((x.1.ef == f.ef) && ((x.2.length : Int) == 0))))))
def bsumOf (x : BL) : Int := bsum x.1 x.2
def sumsOf (cs : List BL) : List Int := cs.map bsumOf
theorem sumsOf_snoc {cs : List BL} {k : Nat} {x : BL} (h : cs[k]? = some x) : sumsOf (cs.take (k + 1)) = sumsOf (cs.take k) ++ [bsumOf x] := by
  rw [List.take_add_one, h]; simp [sumsOf]
theorem sumsOf_length (cs : List BL) : (sumsOf cs).length = cs.length := by simp [sumsOf]
theorem sumsOf_get {cs : List BL} {k : Nat} {x : BL} (h : cs[k]? = some x) : (sumsOf cs)[k]? = some (bsumOf x) := by simp [sumsOf, h]
def newAt (cs : List BL) (i : Nat) : Bool := match cs[i]? with
  | none => true
  | some x => decide (0 ≤ bsumOf x) && !(sumsOf (cs.take i)).contains (bsumOf x)
def linkAt (cs : List BL) (pr : List Int) (i : Nat) : Bool := decide (i = 0) || match cs[i]?, pr[i]? with
  | some x, some n => inR n 0 ((i : Int) - 1) && match cs[n.toNat]? with
    | some y => decide (bsumOf y = x.1.bf) && (decide (y.1.ht + 1 = x.1.ht) && decide (y.1.vw < x.1.vw))
    | none => true
  | _, _ => true
def Tree.head (t : Tree) : Bool := entsOk 1 t.base && (inR t.bs.length 1 14 && (decide (t.pr.length = t.bs.length) && decide (t.pr.getD 0 0 = -1)))
def Tree.first (t : Tree) : Bool := match t.bs[0]? with | some x => sameF x (firstB t.base) | none => true
def Tree.ok (t : Tree) : Bool := t.head && (t.first && (upTo (newAt t.bs) t.bs.length && upTo (linkAt t.bs t.pr) t.bs.length))
theorem bsum_ge {b : Blk} {l : List Actn} (h : b.okL l = true) : 0 ≤ bsum b l ∧ bsum b l < 1000003 := by
  rw [bsum_yes h]; exact sumL_in (by decide) (by decide) _
theorem bsum_ok (b : Blk) (l : List Actn) : decide (0 ≤ bsum b l) = b.okL l := by
  rcases h : b.okL l with _ | _
  · rw [bsum_no h]; rfl
  · have := (bsum_ge h).1; simpa using this
theorem Blk.okL_in {b : Blk} {l : List Actn} (h : b.okL l = true) : (0 ≤ b.bf ∧ b.bf ≤ 1000002) ∧ (0 ≤ b.rt ∧ b.rt ≤ 1000002) ∧ (0 ≤ b.ef ∧ b.ef ≤ 1000002) ∧ (0 ≤ b.ht ∧ b.ht ≤ 100) ∧ (0 ≤ b.vw ∧ b.vw ≤ 1000) := by
  simp only [Blk.okL, Bool.and_eq_true, inR_iff] at h
  exact ⟨h.1, h.2.1, h.2.2.1, h.2.2.2.1, h.2.2.2.2.1⟩
/-- The number of the first block with a sum, -1 for none. -/
def findTo (cs : List BL) (sum : Int) (k : Nat) : Bool := upTo (fun i => match cs[i]? with | none => true | some x => decide (bsumOf x ≠ sum)) k
def findB (cs : List BL) (sum : Int) : Int := match cs.findIdx? (fun x => bsumOf x == sum) with | some i => (i : Int) | none => -1
theorem findTo_next {cs : List BL} {sum : Int} {k : Nat} {x : BL} (h : findTo cs sum k = true) (hx : cs[k]? = some x) (hne : bsumOf x ≠ sum) : findTo cs sum (k + 1) = true :=
  upTo_succ h (by simp only [hx]; simpa using hne)
theorem findTo_ne {cs : List BL} {sum : Int} {k : Nat} (h : findTo cs sum k = true) {i : Nat} (hi : i < k) {y : BL} (hy : cs[i]? = some y) : bsumOf y ≠ sum := by
  have := upTo_iff.1 h i hi
  simpa [hy] using this
theorem findB_at {cs : List BL} {sum : Int} {k : Nat} {x : BL} (h : findTo cs sum k = true) (hx : cs[k]? = some x) (he : bsumOf x = sum) : findB cs sum = k := by
  have : cs.findIdx? (fun x => bsumOf x == sum) = some k := by
    rw [List.findIdx?_eq_some_iff_getElem]
    obtain ⟨h1, h2⟩ := List.getElem?_eq_some_iff.1 hx
    refine ⟨h1, by rw [h2]; simpa using he, fun j hj => ?_⟩
    have := findTo_ne h hj (show cs[j]? = some cs[j] by simp)
    simpa using this
  unfold findB; rw [this]
theorem findB_none {cs : List BL} {sum : Int} (h : findTo cs sum cs.length = true) : findB cs sum = -1 := by
  have : cs.findIdx? (fun x => bsumOf x == sum) = none := by
    rw [List.findIdx?_eq_none_iff]
    intro x hx
    obtain ⟨i, hi⟩ := List.getElem?_of_mem hx
    have := findTo_ne h (List.getElem?_eq_some_iff.1 hi).1 hi
    simpa using this
  unfold findB; rw [this]
theorem findB_ge (cs : List BL) (sum : Int) : -1 ≤ findB cs sum ∧ findB cs sum < cs.length + 1 := by
  unfold findB
  split
  · rename_i i h
    have := (List.findIdx?_eq_some_iff_getElem.1 h).1
    omega
  · omega
/-- A block is the first with its sum: its sum is new. -/
theorem newAt_find {cs : List BL} {k : Nat} {x : BL} (hx : cs[k]? = some x) : newAt cs k = (x.1.okL x.2 && decide (findB cs (bsumOf x) = k)) := by
  unfold newAt
  rw [hx]
  show (decide (0 ≤ bsum x.1 x.2) && _) = _
  rw [bsum_ok]
  congr 1
  rcases hc : (sumsOf (cs.take k)).contains (bsumOf x) with _ | _
  · have : findTo cs (bsumOf x) k = true := by
      refine upTo_iff.2 fun i hi => ?_
      obtain ⟨y, hy⟩ := getElem?_some_of_lt (show i < cs.length by have := (List.getElem?_eq_some_iff.1 hx).1; omega)
      simp only [hy]
      rw [← Bool.not_eq_true] at hc
      have hne : bsumOf y ≠ bsumOf x := fun e => hc (by
        rw [List.contains_iff_mem, ← e]
        exact List.mem_map.2 ⟨y, List.mem_of_getElem? (by rw [List.getElem?_take_of_lt hi]; exact hy), rfl⟩)
      simpa using hne
    simp [findB_at this hx rfl]
  · rw [List.contains_iff_mem] at hc
    obtain ⟨y, hy, he⟩ := List.mem_map.1 hc
    obtain ⟨i, hi⟩ := List.getElem?_of_mem hy
    have hik : i < k := by have := (List.getElem?_eq_some_iff.1 hi).1; simp at this; omega
    rw [List.getElem?_take_of_lt hik] at hi
    have : findB cs (bsumOf x) ≠ k := by
      intro e
      unfold findB at e
      split at e
      · rename_i j hj
        have : j = k := by omega
        subst this
        have h3 := (List.findIdx?_eq_some_iff_getElem.1 hj).2.2 i hik
        obtain ⟨h5, h4⟩ := List.getElem?_eq_some_iff.1 hi
        rw [h4] at h3
        simp [he] at h3
      · omega
    simp [this]
theorem upTo_and {f g : Nat → Bool} (n : Nat) : upTo (fun i => f i && g i) n = (upTo f n && upTo g n) := by
  rw [Bool.eq_iff_iff, Bool.and_eq_true]
  simp only [upTo_iff, Bool.and_eq_true]
  exact ⟨fun h => ⟨fun k hk => (h k hk).1, fun k hk => (h k hk).2⟩, fun h k hk => ⟨h.1 k hk, h.2 k hk⟩⟩
end Go.Proofs.YteiemjebdhmnaaaGreat
namespace Go.Proofs.YteiemjebdhmnaaaGreat
open Go Go.RowKit

/-- The block of v, if it has one, is below hi. -/
def Under (hi : Nat) (v : Value) : Prop := ∀ k, v.ownBlock = some k → k < hi
theorem Under.le {a b : Nat} {v : Value} (h : Under a v) (hab : a ≤ b) : Under b v := fun k hk => Nat.lt_of_lt_of_le (h k hk) hab
theorem Own.under {α : Type} {enc : α → List Value} {e sz lo : Nat} {w : World} {v : Value} {l : List α} (h : Own enc e sz lo w v l) : Under w.heap.size v := fun k hk => (World.ownsRow.lt h k hk).2
theorem Own.apartU {α : Type} {enc : α → List Value} {e sz lo hi : Nat} {w : World} {v u : Value} {l : List α} (h : Own enc e sz lo w v l) (hu : Under hi u) (hle : hi ≤ lo) : Apart v u := by
  unfold Apart
  cases hv : v.ownBlock with
  | none => exact .inl rfl
  | some k =>
    right; intro e
    have h1 := (World.ownsRow.lt h k hv).1
    have h2 := hu k e.symm
    omega
/-- Blocks from hi on are as they were. -/
def Keep (hi : Nat) (w w' : World) : Prop := w.heap.size ≤ w'.heap.size ∧ ∀ k, hi ≤ k → k < w.heap.size → w'.heap[k]? = w.heap[k]?
theorem Keep.refl (hi : Nat) (w : World) : Keep hi w w := ⟨Nat.le_refl _, fun _ _ _ => rfl⟩
theorem Keep.trans {hi : Nat} {a b c : World} (h : Keep hi a b) (k : Keep hi b c) : Keep hi a c :=
  ⟨Nat.le_trans h.1 k.1, fun i hi' hs => (k.2 i hi' (Nat.lt_of_lt_of_le hs h.1)).trans (h.2 i hi' hs)⟩
theorem Keep.mono {a b : Nat} {w w' : World} (h : Keep a w w') (hab : a ≤ b) : Keep b w w' := ⟨h.1, fun k hk => h.2 k (Nat.le_trans hab hk)⟩
theorem Keep.grown {hi : Nat} {w w' : World} {v : Value} (hg : w.grownBy w' v.ownBlock) (hu : Under hi v) : Keep hi w w' :=
  ⟨hg.size, fun k hk hs => hg.block k hs (fun e => by have := hu k (by first | exact e | exact e.symm); omega)⟩
theorem Own.keepHi {α : Type} {enc : α → List Value} {e sz lo hi : Nat} {w w' : World} {v : Value} {l : List α} (h : Own enc e sz lo w v l) (hk : Keep hi w w') (hle : hi ≤ lo) : Own enc e sz lo w' v l := by
  refine ⟨h.1, ?_⟩
  rcases h.2 with h2 | ⟨g, cap, cur, hv, hlo, hg, r⟩
  · exact .inl h2
  · exact .inr ⟨g, cap, cur, hv, hlo, (hk.2 g (by omega) (Array.getElem?_eq_some_iff.1 hg).1).trans hg, r⟩
theorem Own.setAllOld {α : Type} {enc : α → List Value} {e sz lo g : Nat} {v : Value} {l : List α} (hlt : g < lo) : ∀ (cs : List Value) {w : World} (m : Nat), Own enc e sz lo w v l → Own enc e sz lo (setAllW w g m cs) v l
  | [], _, _, h => h
  | c :: cs, _, m, h => Own.setAllOld hlt cs (m + 1) (h.setOld ⟨g, m, none⟩ c hlt)
theorem Filled.snoc {α : Type} {enc : α → List Value} {sz : Nat} (he : ∀ x, (enc x).length = sz) {l : List α} {k : Nat} {xs : List Value} (x : α) (hk : l.length = k) (hlen : k * sz + sz ≤ xs.length) (h : Filled enc sz l k xs) :
    Filled enc sz (l ++ [x]) (k + 1) (setAll xs (k * sz) (enc x)) := by
  subst hk
  intro i y hi hy j u hu
  have hj : j < sz := by have := (List.getElem?_eq_some_iff.1 hu).1; rw [he] at this; exact this
  rw [setAll_get _ _ _ _ (by rw [he]; exact hlen)]
  by_cases hik : i = l.length
  · subst hik
    rw [List.getElem?_append_right (Nat.le_refl _), Nat.sub_self] at hy
    simp only [List.getElem?_cons_zero, Option.some.injEq] at hy
    subst hy
    rw [if_pos (by rw [he]; omega), show l.length * sz + j - l.length * sz = j from by omega]; exact hu
  · have : i * sz + sz ≤ l.length * sz := by rw [← Nat.succ_mul]; exact Nat.mul_le_mul_right _ (by omega)
    rw [if_neg (by omega)]
    rw [List.getElem?_append_left (by omega)] at hy
    exact h i y (by omega) hy j u hu
/-- A tree's three slices, of the call's own, one made behind the other. -/
def OT (eE eB eA eI lo hi : Nat) (w : World) (v0 v1 v2 : Value) (base : List Ent) (bs : List TB) (pr : List Int) : Prop :=
  ∃ s1 s2, lo ≤ s1 ∧ s1 ≤ s2 ∧ s2 ≤ hi ∧ Own Ent.enc eE 2 lo w v0 base ∧ Under s1 v0 ∧ OB eB eA s1 w v1 bs ∧ Under s2 v1 ∧ (∀ x ∈ bs, Under s2 x.v) ∧ Own encI eI 1 s2 w v2 pr ∧ Under hi v2
theorem OT.up {eE eB eA eI lo hi : Nat} {w w' : World} {v0 v1 v2 : Value} {base : List Ent} {bs : List TB} {pr : List Int} (h : OT eE eB eA eI lo hi w v0 v1 v2 base bs pr) (hE : Ext w w') : OT eE eB eA eI lo hi w' v0 v1 v2 base bs pr := by
  obtain ⟨s1, s2, a, b, c, h1, h2, h3, h4, h5, h6, h7⟩ := h
  exact ⟨s1, s2, a, b, c, h1.up hE, h2, h3.up hE, h4, h5, h6.up hE, h7⟩
theorem OB.setOld {eB eA lo : Nat} {w : World} {v : Value} {bs : List TB} (h : OB eB eA lo w v bs) (a : Addr) (u : Value) (hlt : a.block < lo) : OB eB eA lo (w.setCell a u) v bs :=
  ⟨h.1.setOld a u hlt, fun x hx => ⟨(h.2.1 x hx).1.setOld a u hlt, (h.2.1 x hx).2⟩, h.2.2⟩
theorem OB.lo {eB eA lo lo' : Nat} {w : World} {v : Value} {bs : List TB} (h : OB eB eA lo w v bs) (hl : lo' ≤ lo) : OB eB eA lo' w v bs :=
  ⟨h.1.lo hl, fun x hx => ⟨(h.2.1 x hx).1.lo hl, (h.2.1 x hx).2⟩, h.2.2⟩
theorem OT.setOld {eE eB eA eI lo hi : Nat} {w : World} {v0 v1 v2 : Value} {base : List Ent} {bs : List TB} {pr : List Int} (h : OT eE eB eA eI lo hi w v0 v1 v2 base bs pr) (a : Addr) (u : Value) (hlt : a.block < lo) : OT eE eB eA eI lo hi (w.setCell a u) v0 v1 v2 base bs pr := by
  obtain ⟨s1, s2, h1, h2, h3, h4, h5, h6, h7, h8, h9, h10⟩ := h
  exact ⟨s1, s2, h1, h2, h3, h4.setOld a u hlt, h5, h6.setOld a u (by omega), h7, h8, h9.setOld a u (by omega), h10⟩
theorem OT.mono {eE eB eA eI lo hi lo' hi' : Nat} {w : World} {v0 v1 v2 : Value} {base : List Ent} {bs : List TB} {pr : List Int} (h : OT eE eB eA eI lo hi w v0 v1 v2 base bs pr) (hl : lo' ≤ lo) (hh : hi ≤ hi') : OT eE eB eA eI lo' hi' w v0 v1 v2 base bs pr := by
  obtain ⟨s1, s2, h1, h2, h3, h4, h5, h6, h7, h8, h9, h10⟩ := h
  exact ⟨s1, s2, by omega, h2, by omega, h4.lo hl, h5, h6, h7, h8, h9, h10.le hh⟩
theorem OB.under {eB eA lo : Nat} {w : World} {v : Value} {bs : List TB} (h : OB eB eA lo w v bs) : ∀ x ∈ bs, Under w.heap.size x.v := fun x hx => (h.2.1 x hx).1.under
theorem setCell_size (w : World) (a : Addr) (u : Value) : (w.setCell a u).heap.size = w.heap.size := by simp [World.setCell]
/-- A tree in memory. -/
structure ST (w : World) (v0 v1 v2 : Value) (t : Tree) : Prop where
  base : SL (RF Ent.enc) 2 w v0 t.base
  bs : SB w v1 t.bs
  pr : SL (RF encI) 1 w v2 t.pr
theorem ST.up {w w' : World} {v0 v1 v2 : Value} {t : Tree} (h : ST w v0 v1 v2 t) (hE : Ext w w') : ST w' v0 v1 v2 t := ⟨h.base.up hE, h.bs.up hE, h.pr.up hE⟩
theorem OT.st {eE eB eA eI lo hi : Nat} {w : World} {v0 v1 v2 : Value} {base : List Ent} {bs : List TB} {pr : List Int} (h : OT eE eB eA eI lo hi w v0 v1 v2 base bs pr) : ST w v0 v1 v2 ⟨base, bs.map TB.core, pr⟩ := by
  obtain ⟨s1, s2, a, b, c, h1, h2, h3, h4, h5, h6, h7⟩ := h
  exact ⟨h1.sl Ent.enc_length, h3.sb, h6.sl encI_length⟩
theorem OT.st' {eE eB eA eI lo hi : Nat} {w : World} {v0 v1 v2 : Value} {bs : List TB} {t : Tree} (h : OT eE eB eA eI lo hi w v0 v1 v2 t.base bs t.pr) (hb : bs.map TB.core = t.bs) : ST w v0 v1 v2 t := by
  have := h.st
  rw [hb] at this
  exact this
end Go.Proofs.YteiemjebdhmnaaaGreat
namespace Go.Proofs.YteiemjebdhmnaaaGreat
open Go.ChangeShapes Go.WideShapes Go.ChangeAt Go.RowKit

theorem SB.of {w : World} {v : Value} {l : List BL} (h : SL RBlk 6 w v l) : SB w v l := by
  obtain ⟨a, cap, rfl, hl, hc⟩ := h
  have key : ∀ i, i < l.length → ∃ y : TB, l[i]? = some y.core ∧ SL (RF Actn.enc) 4 w y.v y.l ∧ ∀ b off, a = some ⟨b, off, none⟩ → ∀ j u, y.enc[j]? = some u → w.cell? ⟨b, off + i * 6 + j, none⟩ = some u := by
    intro i hi
    obtain ⟨x, hx⟩ := getElem?_some_of_lt hi
    obtain ⟨b, off, ha, hb, hcell⟩ := hc (by intro e; subst e; simp at hi)
    obtain ⟨cs, h1, h2, v, h3, h4⟩ := hcell i x hx
    refine ⟨⟨x.1, v, x.2⟩, hx, h4, fun b' off' e j u hu => ?_⟩
    rw [ha] at e
    simp only [Option.some.injEq, Addr.mk.injEq, and_true] at e
    obtain ⟨rfl, rfl⟩ := e
    refine h2 j u ?_
    rw [h3]; exact hu
  obtain ⟨bs, hbl, hq⟩ := list_of l.length key
  have hm : l = bs.map TB.core := by
    apply List.ext_getElem?
    intro i
    by_cases hi : i < l.length
    · obtain ⟨y, hy⟩ := getElem?_some_of_lt (l := bs) (k := i) (by omega)
      rw [List.getElem?_map, hy, (hq i y hy).1]; rfl
    · rw [List.getElem?_eq_none (by omega), List.getElem?_eq_none (by simp; omega)]
  refine ⟨bs, hm, ⟨a, cap, by rw [hbl], by rw [hbl]; exact hl, fun hne => ?_⟩, fun x hx => ?_⟩
  · obtain ⟨b, off, ha, hb, _⟩ := hc (by intro e; rw [e] at hbl; exact hne (List.eq_nil_of_length_eq_zero hbl))
    exact ⟨b, off, ha, hb, fun i y hy => ⟨y.enc, rfl, (hq i y hy).2.2 b off ha, rfl⟩⟩
  · obtain ⟨i, hi⟩ := List.getElem?_of_mem hx
    exact (hq i x hi).2.1
theorem dec_BlockS : Dec Tryz.prog 40 1 (RSl RBlk 6) := dec_slice Tryz.underlying40 (by kernel_rfl) (by decide) dec_Block
def RTree (W : World) (cs : List Value) (t : Tree) : Prop := ∃ v0 v1 v2, cs = [v0, v1, v2] ∧ ST W v0 v1 v2 t
set_option maxRecDepth 100000 in
theorem dec_BlockTree : Dec Tryz.prog 42 3 RTree := by
  intro H enc W sp held fuel cs x h
  obtain ⟨hl, hf⟩ := trod_fields Tryz.underlying42 h
  have hl3 : cs.length = 3 := hl.trans (by kernel_rfl)
  refine ⟨hl3, ?_⟩
  match cs, hl3 with
  | [a, b, c], _ =>
    obtain ⟨n0, y0, h0⟩ := hf 0 _ rfl
    obtain ⟨n1, y1, h1⟩ := hf 1 _ rfl
    obtain ⟨n2, y2, h2⟩ := hf 2 _ rfl
    obtain ⟨_, l0, v0, e0, s0⟩ := dec_EntryS _ enc W sp held _ _ _ h0
    obtain ⟨_, l1, v1, e1, s1⟩ := dec_BlockS _ enc W sp held _ _ _ h1
    obtain ⟨_, l2, v2, e2, s2⟩ := dec_IntS _ enc W sp held _ _ _ h2
    have c0 : Tryz.prog.cellsOf 39 = 1 := by kernel_rfl
    have c1 : Tryz.prog.cellsOf 40 = 1 := by kernel_rfl
    have c2 : Tryz.prog.cellsOf 25 = 1 := by kernel_rfl
    simp [c0] at e0
    simp [c1] at e1
    simp [c2] at e2
    exact ⟨⟨l0, l1, l2⟩, v0, v1, v2, by simp [e0, e1, e2], s0, SB.of s1, s2⟩
end Go.Proofs.YteiemjebdhmnaaaGreat
namespace Go.Proofs.YteiemjebdhmnaaaGreat
open Go Go.RowKit

def vA (v : List Int) : Array Value := (v.map (Value.int .i64)).toArray
theorem vA_size (v : List Int) : (vA v).size = v.length := by simp [vA]
theorem vA_get (v : List Int) (i : Nat) : (vA v)[i]? = v[i]?.map (Value.int .i64) := by simp [vA]
theorem vA_some {v : List Int} {i : Nat} {x : Int} (h : v[i]? = some x) : (vA v)[i]? = some (.int .i64 x) := by rw [vA_get, h]; rfl
theorem vA_one (v : List Int) : (vA v).all (·.oneCell') = true := by
  rw [Array.all_eq_true_iff_forall_mem]
  intro u hu
  simp only [vA, List.mem_toArray, List.mem_map] at hu
  obtain ⟨x, _, rfl⟩ := hu; rfl
/-- Block g holds the numbers v. -/
def Row (t : TypeId) (w : World) (g : Nat) (v : List Int) : Prop := w.heap[g]? = some (.cells (vA v) t (0, 0))
theorem Row.eq {t : TypeId} {w : World} {g : Nat} {v : List Int} (h : Row t w g v) : w.heap[g]? = some (.cells (vA v) t (0, 0)) := h
theorem Row.lt {t : TypeId} {w : World} {g : Nat} {v : List Int} (h : Row t w g v) : g < w.heap.size := (Array.getElem?_eq_some_iff.1 h).1
theorem Row.lts {t : TypeId} {w : World} {g : Nat} {v : List Int} (h : Row t w g v) : LtS g w := ⟨h.lt⟩
theorem Row.new (t : TypeId) (w : World) (v : List Int) : Row t (w.alloc (.cells (vA v) t)) w.heap.size v := heap_alloc_new w _
theorem Row.of_eq {t : TypeId} {w : World} {g : Nat} {cs : Array Value} {v : List Int} (h : w.heap[g]? = some (.cells cs t (0, 0))) (e : cs = vA v) : Row t w g v := by subst e; exact h
theorem Row.up {t : TypeId} {w w' : World} {g : Nat} {v : List Int} (h : Row t w g v) (hE : Ext w w') : Row t w' g v := (hE.block h.lt).trans h
theorem Row.cell {t : TypeId} {w : World} {g : Nat} {v : List Int} (h : Row t w g v) {i : Nat} {x : Int} (hx : v[i]? = some x) : w.cell? ⟨g, i, none⟩ = some (.int .i64 x) := by
  rw [cell_of_row w g i _ t (0, 0) h]; exact vA_some hx
theorem Row.frozen {t : TypeId} {w : World} {g : Nat} {v : List Int} (h : Row t w g v) (i : Nat) : w.frozen? ⟨g, i, none⟩ = false := frozen_of_row w g i _ t h
theorem vA_set (v : List Int) (i : Nat) (x : Int) : (vA v).setIfInBounds i (.int .i64 x) = vA (v.set i x) := by simp [vA]
theorem Row.set {t : TypeId} {w : World} {g : Nat} {v : List Int} (h : Row t w g v) (i : Nat) (x : Int) : Row t (w.setCell ⟨g, i, none⟩ (.int .i64 x)) g (v.set i x) := by
  unfold Row
  rw [heap_setCell_same w g i _ t _ h, vA_set]
theorem Row.other {t : TypeId} {w : World} {g : Nat} {v : List Int} (h : Row t w g v) {p : Addr} (u : Value) (hne : g ≠ p.block) : Row t (w.setCell p u) g v := (heap_setCell_other w p g u hne).trans h
theorem Row.alloc {t : TypeId} {w : World} {g : Nat} {v : List Int} (h : Row t w g v) (o : Obj) : Row t (w.alloc o) g v := h.up ((Ext.refl w).alloc o)
theorem Row.drew {t : TypeId} {w : World} {g : Nat} {v : List Int} (h : Row t w g v) : Row t w.drew g v := h
theorem Row.setRow {t : TypeId} {w : World} {g : Nat} {v : List Int} (h : Row t w g v) (v' : List Int) : Row t (w.setRow g (vA v')) g v' := setRow_heap w g _ _ t _ h
theorem run_index_vA {P : Program} {t e : TypeId} {n : Nat} (ht : P.underlying t = some (.array n e)) (he : P.underlying e = some (.int .i64)) (hs : (P.info? e).map (·.size) = some 1) {v : List Int} {i : Int} {x : Int} (h0 : 0 ≤ i) (hi : i < n) (hx : v[i.toNat]? = some x) (w : World) :
    (Instr.index t (.agg (vA v)) (.int .i64 i)).run P w = .ok (.int .i64 x) w := by
  have hx' := vA_some hx
  cases hq : P.info? e with
  | none => simp [hq] at hs
  | some info =>
    have h1 : info.size = 1 := by simpa [hq] using hs
    simp [Instr.index, asIntOf, run_underlying ht, run_underlying he, part, isAgg, sizeOf, typeInfo, Sem.run_bind, hq, h1, h0, hi, hx', go_sem]
/-- A whole array is stored into the block that was made last. -/
theorem wpList_store_new {P : Program} {ops : Array Oper} {rest : List Oper} {o : Oper} {a : Act} {W1 : World} {Q : Exit → Act → World → Prop} (hgd : o.guard = none) (ty : TypeId) (x y : Operand) (ho : o.op = .store ty x y)
    {g : Nat} {v : List Int} (hx : a.eval x = .pointer (some ⟨g, 0, none⟩)) (hy : a.eval y = .agg (vA v)) {t : TypeId} {old : Array Value} (hg : g = W1.heap.size)
    (hi : (P.info? ty).map (·.size) = some v.length) (hold : old.size = v.length)
    (h : ∀ z1 : Extd W1, Row t z1.val W1.heap.size v → wpList P ops Q rest (a.put o.dst undef) z1.val) : wpList P ops Q (o :: rest) a (W1.alloc (.cells old t)) := by
  subst hg
  have h0 : (W1.alloc (.cells old t)).heap[W1.heap.size]? = some (.cells old t (0, 0)) := heap_alloc_new _ _
  refine wpList_store_row hgd ty x y ho _ (vA v) hx hy t old h0 (by rw [vA_size]; exact hi) (by rw [vA_size]; exact hold) (vA_one v) ?_
  exact h ⟨_, ((Ext.refl W1).alloc _).setRow (Nat.le_refl _) _⟩ (setRow_heap _ _ _ _ t _ h0)
end Go.Proofs.YteiemjebdhmnaaaGreat
