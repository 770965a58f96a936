/- Plain laws: stores of entries, the values of all keys, versions that are read, sums. Plain laws: sums of blocks. Walks: sums. Walks: actions: the keys that they read and write; conflicts. Walks: actions: masks, conflicts. Walks: the reference's conflicts. Steps through a drawn region, by hand: guards and callees that answer slices. Walks: FnExactOrderFits: orders of actions. -/
import Derived.Test.YteiemjebdhmnaaaGreatGLxTop00
import Derived.Test.YteiemjebdhmnaaaGreatGLxTop01
import Derived.Test.YteiemjebdhmnaaaGreatGLxTop02
import Derived.Deep.AppendLies
import Derived.Deep.DeepCutAuto
set_option linter.unusedSimpArgs false
set_option linter.unusedVariables false
namespace Go.Proofs.YteiemjebdhmnaaaGreat
open Go Go.RowKit

/-! ### Entries -/
def entAt (least : Int) (l : List Ent) (i : Nat) : Bool := match l[i]? with
  | none => true
  | some x => (inR x.k 0 31 && inR x.v least 1000000) && (decide (i = 0) || match l[i - 1]? with | none => true | some y => decide (y.k < x.k))
theorem entAt_first {least : Int} {l : List Ent} {i : Nat} {x : Ent} (h : l[i]? = some x) (hi : ¬ 0 < i) : entAt least l i = (inR x.k 0 31 && inR x.v least 1000000) := by
  obtain rfl : i = 0 := by omega
  simp [entAt, h]
theorem entAt_next {least : Int} {l : List Ent} {i : Nat} {x y : Ent} (h : l[i]? = some x) (hi : 0 < i) (hy : l[i - 1]? = some y) : entAt least l i = ((inR x.k 0 31 && inR x.v least 1000000) && decide (y.k < x.k)) := by
  have : i ≠ 0 := by omega
  simp [entAt, h, hy, this]
def entsOk (least : Int) (l : List Ent) : Bool := upTo (entAt least l) l.length
theorem entAt_in {least : Int} {l : List Ent} {i : Nat} {x : Ent} (h : l[i]? = some x) (hf : entAt least l i = true) : 0 ≤ x.k ∧ x.k ≤ 31 ∧ least ≤ x.v ∧ x.v ≤ 1000000 := by
  simp only [entAt, h, Bool.and_eq_true, inR_iff] at hf
  exact ⟨hf.1.1.1, hf.1.1.2, hf.1.2.1, hf.1.2.2⟩
theorem entAt_lt {least : Int} {l : List Ent} {i : Nat} {x y : Ent} (h : l[i + 1]? = some x) (hy : l[i]? = some y) (hf : entAt least l (i + 1) = true) : y.k < x.k := by
  rw [entAt_next h (by omega) (by simpa using hy)] at hf
  simp at hf; exact hf.2
theorem entsOk_at {least : Int} {l : List Ent} (h : entsOk least l = true) {i : Nat} {x : Ent} (hx : l[i]? = some x) : 0 ≤ x.k ∧ x.k ≤ 31 ∧ least ≤ x.v ∧ x.v ≤ 1000000 :=
  entAt_in hx (upTo_iff.1 h i (List.getElem?_eq_some_iff.1 hx).1)
theorem entsOk_mem {least : Int} {l : List Ent} (h : entsOk least l = true) {x : Ent} (hx : x ∈ l) : 0 ≤ x.k ∧ x.k ≤ 31 ∧ least ≤ x.v ∧ x.v ≤ 1000000 := by
  obtain ⟨i, hi⟩ := List.getElem?_of_mem hx
  exact entsOk_at h hi
theorem upTo_mono {f : Nat → Bool} {k n : Nat} (h : upTo f n = true) (hk : k ≤ n) : upTo f k = true := upTo_iff.2 fun i hi => upTo_iff.1 h i (by omega)
theorem asc_of {least : Int} {l : List Ent} (h : entsOk least l = true) : l.Pairwise fun a b => a.k < b.k := by
  have key : ∀ n (i : Nat) x y, l[i]? = some x → l[i + (n + 1)]? = some y → x.k < y.k := by
    intro n
    induction n with
    | zero => intro i x y hx hy; exact entAt_lt hy hx (upTo_iff.1 h _ (List.getElem?_eq_some_iff.1 hy).1)
    | succ n ih =>
      intro i x y hx hy
      have hlt := (List.getElem?_eq_some_iff.1 hy).1
      obtain ⟨z, hz⟩ := getElem?_some_of_lt (show i + (n + 1) < l.length by omega)
      have h1 := ih i x z hx hz
      have h2 := entAt_lt (y := z) hy hz (upTo_iff.1 h _ hlt)
      omega
  rw [List.pairwise_iff_getElem]
  intro i j hi hj hij
  have := key (j - i - 1) i l[i] l[j] (by simp) (by rw [show i + (j - i - 1 + 1) = j from by omega]; simp)
  exact this
theorem asc_len_aux : ∀ (l : List Ent) (lo : Int), l.Pairwise (fun a b => a.k < b.k) → (∀ x ∈ l, lo ≤ x.k ∧ x.k ≤ 31) → (l.length : Int) ≤ max 0 (32 - lo)
  | [], lo, _, _ => by simp; omega
  | a :: l, lo, h, hin => by
    rw [List.pairwise_cons] at h
    have ha := hin a (by simp)
    have := asc_len_aux l (a.k + 1) h.2 (fun x hx => ⟨by have := h.1 x hx; omega, (hin x (by simp [hx])).2⟩)
    simp only [List.length_cons]; omega
theorem entsOk_len {least : Int} {l : List Ent} (h : entsOk least l = true) : l.length ≤ 32 := by
  have := asc_len_aux l 0 (asc_of h) (fun x hx => by have := entsOk_mem h hx; omega)
  omega
theorem entsOk_least {a b : Int} (hab : b ≤ a) {l : List Ent} (h : entsOk a l = true) : entsOk b l = true := by
  refine upTo_iff.2 fun i hi => ?_
  have := upTo_iff.1 h i hi
  unfold entAt at *
  split at this
  · rfl
  · rename_i x h1
    simp only [Bool.and_eq_true, inR_iff] at this ⊢
    exact ⟨⟨this.1.1, by omega, this.1.2.2⟩, this.2⟩

/-! ### The values of all keys -/
def atK (l : List Ent) (key : Int) : Int := match l.find? (fun e => e.k == key) with | some e => e.v | none => 0
def vset (v : List Int) (e : Ent) : List Int := v.set e.k.toNat e.v
def vsets (v : List Int) (l : List Ent) : List Int := l.foldl vset v
def zeros : List Int := List.replicate 32 0
def valsOf (l : List Ent) : List Int := vsets zeros l
theorem vset_length (v : List Int) (e : Ent) : (vset v e).length = v.length := by simp [vset]
theorem vsets_length (l : List Ent) : ∀ v : List Int, (vsets v l).length = v.length := by
  induction l with
  | nil => intro v; rfl
  | cons e l ih => intro v; exact (ih _).trans (vset_length v e)
theorem vsets_snoc (v : List Int) {l : List Ent} {k : Nat} {x : Ent} (h : l[k]? = some x) : vsets v (l.take (k + 1)) = vset (vsets v (l.take k)) x := by
  rw [List.take_add_one, h]; simp [vsets]
theorem zeros_length : zeros.length = 32 := rfl
theorem zeros_get {n : Nat} (h : n < 32) : zeros[n]? = some 0 := by unfold zeros; rw [List.getElem?_replicate, if_pos h]
theorem valsOf_length (l : List Ent) : (valsOf l).length = 32 := (vsets_length l zeros).trans zeros_length
theorem vset_get {v : List Int} {e : Ent} {n : Nat} (h0 : 0 ≤ e.k) (hn : n < v.length) : (vset v e)[n]? = if e.k = (n : Int) then some e.v else v[n]? := by
  unfold vset
  by_cases h : e.k = n
  · rw [if_pos h, show e.k.toNat = n from by omega, List.getElem?_set_self hn]
  · rw [if_neg h, List.getElem?_set_ne (by omega)]
theorem vsets_get : ∀ (l : List Ent) (v : List Int) (n : Nat), l.Pairwise (fun a b => a.k < b.k) → (∀ x ∈ l, 0 ≤ x.k) → n < v.length →
    (vsets v l)[n]? = match l.find? (fun e => e.k == (n : Int)) with | some e => some e.v | none => v[n]?
  | [], v, n, _, _, _ => by simp [vsets]
  | a :: l, v, n, h, h0, hn => by
    rw [List.pairwise_cons] at h
    have ha := h0 a (by simp)
    have ih := vsets_get l (vset v a) n h.2 (fun x hx => h0 x (by simp [hx])) (by rw [vset_length]; exact hn)
    show (vsets (vset v a) l)[n]? = _
    rw [ih, List.find?_cons]
    by_cases hk : a.k = n
    · have hnone : l.find? (fun e => e.k == (n : Int)) = none := by
        rw [List.find?_eq_none]; intro x hx; have := h.1 x hx; simp; omega
      simp only [hnone, vset_get ha hn, hk, beq_self_eq_true, if_true]
    · have : (a.k == (n : Int)) = false := by simpa using hk
      simp only [this, vset_get ha hn, if_neg hk]
theorem valsOf_get {least : Int} {l : List Ent} (h : entsOk least l = true) {n : Nat} (hn : n < 32) : (valsOf l)[n]? = some (atK l n) := by
  unfold valsOf atK
  rw [vsets_get l zeros n (asc_of h) (fun x hx => (entsOk_mem h hx).1) (by rw [zeros_length]; exact hn)]
  cases l.find? (fun e => e.k == (n : Int)) with
  | some e => rfl
  | none => exact zeros_get hn
theorem atK_in {least : Int} {l : List Ent} (h : entsOk least l = true) (h0 : 0 ≤ least) (key : Int) : 0 ≤ atK l key ∧ atK l key ≤ 1000000 := by
  unfold atK
  split
  · rename_i e he
    have := entsOk_mem h (List.mem_of_find?_eq_some he)
    omega
  · omega
/-- The search of a key, entry by entry. -/
def noK (l : List Ent) (key : Int) (k : Nat) : Bool := upTo (fun i => match l[i]? with | none => true | some x => decide (x.k ≠ key)) k
theorem atK_found {l : List Ent} {key : Int} {k : Nat} {x : Ent} (hn : noK l key k = true) (hx : l[k]? = some x) (hk : x.k = key) : atK l key = x.v := by
  have hs : l.take k ++ x :: l.drop (k + 1) = l := by
    have hlt := (List.getElem?_eq_some_iff.1 hx)
    obtain ⟨h1, h2⟩ := hlt
    rw [← h2, ← List.drop_eq_getElem_cons h1, List.take_append_drop]
  have hnone : (l.take k).find? (fun e => e.k == key) = none := by
    rw [List.find?_eq_none]
    intro y hy
    obtain ⟨i, hi⟩ := List.getElem?_of_mem hy
    have hik : i < k := by
      have := (List.getElem?_eq_some_iff.1 hi).1
      simp at this; omega
    rw [List.getElem?_take_of_lt hik] at hi
    have := upTo_iff.1 hn i hik
    simp only [hi] at this
    simpa using this
  unfold atK
  rw [← hs, List.find?_append, hnone, Option.none_or, List.find?_cons, hk]
  simp
theorem atK_none {l : List Ent} {key : Int} (hn : noK l key l.length = true) : atK l key = 0 := by
  have hnone : l.find? (fun e => e.k == key) = none := by
    rw [List.find?_eq_none]
    intro y hy
    obtain ⟨i, hi⟩ := List.getElem?_of_mem hy
    have := upTo_iff.1 hn i (List.getElem?_eq_some_iff.1 hi).1
    simp only [hi] at this
    simpa using this
  unfold atK; rw [hnone]
theorem noK_next {l : List Ent} {key : Int} {k : Nat} {x : Ent} (hn : noK l key k = true) (hx : l[k]? = some x) (hk : x.k ≠ key) : noK l key (k + 1) = true :=
  upTo_succ hn (by simp only [hx]; simpa using hk)

/-! ### Values as a store -/
def stTo (v : List Int) : Nat → List Ent
  | 0 => []
  | k + 1 => stTo v k ++ if 0 < v.getD k 0 then [⟨(k : Int), v.getD k 0⟩] else []
def storeOf (v : List Int) : List Ent := stTo v 32
theorem stTo_len (v : List Int) : ∀ k, (stTo v k).length ≤ k
  | 0 => Nat.le_refl _
  | k + 1 => by have := stTo_len v k; unfold stTo; split <;> simp <;> omega
theorem stTo_yes {v : List Int} {k : Nat} {x : Int} (hx : v[k]? = some x) (h : 0 < x) : stTo v (k + 1) = stTo v k ++ [⟨(k : Int), x⟩] := by
  have : v.getD k 0 = x := by simp [List.getD, hx]
  rw [stTo, this, if_pos h]
theorem stTo_no {v : List Int} {k : Nat} {x : Int} (hx : v[k]? = some x) (h : ¬ 0 < x) : stTo v (k + 1) = stTo v k := by
  have : v.getD k 0 = x := by simp [List.getD, hx]
  rw [stTo, this, if_neg h, List.append_nil]

/-! ### Versions that are read -/
def rdStep (key by_ : Int) (p : Int × Int) (x : Ver) : Int × Int := if x.k = key ∧ x.b < by_ then (x.v, x.b) else p
def readV (base : Int) (l : List Ver) (key by_ : Int) : Int × Int := l.foldl (rdStep key by_) (base, -1)
theorem readV_snoc (base : Int) {l : List Ver} (key by_ : Int) {k : Nat} {x : Ver} (h : l[k]? = some x) : readV base (l.take (k + 1)) key by_ = rdStep key by_ (readV base (l.take k) key by_) x := by
  rw [List.take_add_one, h]; simp [readV]
theorem rdStep_yes {key by_ : Int} {p : Int × Int} {x : Ver} (h : x.k = key) (h' : x.b < by_) : rdStep key by_ p x = (x.v, x.b) := if_pos ⟨h, h'⟩
theorem rdStep_no1 {key by_ : Int} {p : Int × Int} {x : Ver} (h : x.k ≠ key) : rdStep key by_ p x = p := if_neg fun a => h a.1
theorem rdStep_no2 {key by_ : Int} {p : Int × Int} {x : Ver} (h : ¬ x.b < by_) : rdStep key by_ p x = p := if_neg fun a => h a.2

/-! ### Sums -/
def sumStep (s n : Int) : Int := (31 * s + n + 7) % 1000003
def sumL (s : Int) (l : List Int) : Int := l.foldl sumStep s
def summed (l : List Int) : Bool := l.all fun n => inR n 0 2000000
def sumOf (tag : Int) (l : List Int) : Int := if (inR tag 0 9 && summed l) = true then sumL (17 + tag) l else -1
theorem sumStep_in {s n : Int} : 0 ≤ sumStep s n ∧ sumStep s n < 1000003 := by unfold sumStep; omega
theorem sumL_snoc (s : Int) {l : List Int} {k : Nat} {x : Int} (h : l[k]? = some x) : sumL s (l.take (k + 1)) = sumStep (sumL s (l.take k)) x := by
  rw [List.take_add_one, h]; simp [sumL]
theorem sumL_in {s : Int} (h0 : 0 ≤ s) (h1 : s < 1000003) : ∀ l : List Int, 0 ≤ sumL s l ∧ sumL s l < 1000003 := by
  intro l
  induction l generalizing s with
  | nil => exact ⟨h0, h1⟩
  | cons n l ih => exact ih (s := sumStep s n) sumStep_in.1 sumStep_in.2
theorem szOf_eq {n : Int} {len : Nat} (h : ¬ szOf n len < 0) : szOf n len = n - len := by unfold szOf at *; split at h <;> first | omega | (rw [if_neg (by assumption)])
theorem storeOf_le (v : List Int) : (storeOf v).length ≤ 32 := stTo_len v 32
/-- The values that remain. -/
def lastV (s : List Ent) (l : List Ver) : List Int := (List.range 32).map fun key : Nat => (readV (atK s key) l key 10).1
theorem lastV_length (s : List Ent) (l : List Ver) : (lastV s l).length = 32 := by simp [lastV]
theorem lastV_get (s : List Ent) (l : List Ver) {k : Nat} (h : k < 32) : (lastV s l)[k]? = some (readV (atK s k) l k 10).1 := by simp [lastV, h]
def mixV (a b : List Int) (k : Nat) : List Int := a.take k ++ b.drop k
theorem mixV_zero (a b : List Int) : mixV a b 0 = b := by simp [mixV]
theorem mixV_all {a b : List Int} (h : a.length = b.length) : mixV a b b.length = a := by simp [mixV, ← h]
theorem mixV_length {a b : List Int} (h : a.length = b.length) {k : Nat} (hk : k ≤ b.length) : (mixV a b k).length = b.length := by simp [mixV]; omega
theorem mixV_next {a b : List Int} {k : Nat} {x : Int} (h : a.length = b.length) (hx : a[k]? = some x) : (mixV a b k).set k x = mixV a b (k + 1) := by
  have hk : k < a.length := (List.getElem?_eq_some_iff.1 hx).1
  apply List.ext_getElem?
  intro i
  unfold mixV
  by_cases hi : i = k
  · subst hi
    rw [List.getElem?_set_self (by simp; omega), List.getElem?_append_left (by simp; omega), List.getElem?_take_of_lt (by omega), hx]
  · rw [List.getElem?_set_ne (by omega)]
    by_cases h1 : i < k
    · rw [List.getElem?_append_left (by simp; omega), List.getElem?_append_left (by simp; omega), List.getElem?_take_of_lt h1, List.getElem?_take_of_lt (by omega)]
    · rw [List.getElem?_append_right (by simp; omega), List.getElem?_append_right (by simp; omega), List.getElem?_drop, List.getElem?_drop]
      congr 1
      simp; omega
end Go.Proofs.YteiemjebdhmnaaaGreat
namespace Go.Proofs.YteiemjebdhmnaaaGreat
open Go Go.RowKit

theorem summed_iff {l : List Int} : summed l = true ↔ ∀ n ∈ l, 0 ≤ n ∧ n ≤ 2000000 := by simp [summed, inR_iff]
theorem summed_at {l : List Int} (h : summed l = true) {k : Nat} {n : Int} (hn : l[k]? = some n) : 0 ≤ n ∧ n ≤ 2000000 := summed_iff.1 h n (List.mem_of_getElem? hn)
theorem sumOf_yes {tag : Int} {l : List Int} (h0 : 0 ≤ tag) (h9 : tag ≤ 9) (h : summed l = true) : sumOf tag l = sumL (17 + tag) l := by
  unfold sumOf; rw [if_pos (by simp [h, inR]; omega)]
theorem sumOf_no {tag : Int} {l : List Int} (h : summed l = false) : sumOf tag l = -1 := by unfold sumOf; rw [if_neg (by simp [h])]
theorem sumOf_tag {tag : Int} {l : List Int} (h : inR tag 0 9 = false) : sumOf tag l = -1 := by unfold sumOf; rw [if_neg (by simp [h])]
theorem sumTo_in {tag : Int} (h0 : 0 ≤ tag) (h9 : tag ≤ 9) (l : List Int) : 0 ≤ sumL (17 + tag) l ∧ sumL (17 + tag) l < 1000003 := sumL_in (by omega) (by omega) l
def aNums (l : List Actn) : List Int := l.flatMap fun x => [x.kind, x.src, x.dst, x.amt]
theorem aNums_snoc {l : List Actn} {k : Nat} {x : Actn} (h : l[k]? = some x) : aNums (l.take (k + 1)) = aNums (l.take k) ++ [x.kind, x.src, x.dst, x.amt] := by
  rw [List.take_add_one, h]; simp [aNums]
theorem aNums_length (l : List Actn) : (aNums l).length = 4 * l.length := by
  induction l with
  | nil => rfl
  | cons x l ih => simp [aNums, List.flatMap_cons] at *; omega
theorem Actn.ok_kind {x : Actn} (h : x.ok = true) : 1 ≤ x.kind ∧ x.kind ≤ 6 := by
  simp only [Actn.ok, Bool.and_eq_true] at h
  have := h.2.2.2
  unfold kindOk at this
  split at this
  · omega
  · split at this
    · omega
    · simp at this; omega
theorem aNums_summed {l : List Actn} (h : ∀ x ∈ l, x.ok = true) : summed (aNums l) = true := by
  rw [summed_iff]
  intro n hn
  simp only [aNums, List.mem_flatMap] at hn
  obtain ⟨x, hx, hn⟩ := hn
  have h1 := h x hx
  have h2 := Actn.ok_kind h1
  simp only [Actn.ok, Bool.and_eq_true, inR_iff] at h1
  simp at hn
  omega
theorem summed_append {a b : List Int} (h : summed a = true) (h' : summed b = true) : summed (a ++ b) = true := by
  rw [summed_iff] at *; intro n hn; rcases List.mem_append.1 hn with h1 | h1
  · exact h n h1
  · exact h' n h1
/-- append of several elements just built. -/
theorem wpList_pushL {P : Program} {t e sz bytes : Nat} (F : AppFacts P t e sz bytes) {ops : Array Oper} {rest : List Oper} {o : Oper} {a : Act} {Q : Exit → Act → World → Prop} (hgd : o.guard = none) (s x : Operand)
    (ho : o.op = .call { callee := .builtin .append, args := #[s, x], argTypes := #[t, t] }) {α : Type} (enc : α → List Value) (he : ∀ x, (enc x).length = sz) (Wb : World) {W1 : World} {cs : Array Value} {e' : TypeId} (ys : List α) (l : List α) {v : Value} (hs : a.eval s = v)
    (hown : Own enc e sz Wb.heap.size W1 v l) (hE : Ext Wb W1) {g m c : Nat} (hx : a.eval x = .slice (some ⟨g, 0, none⟩) m c) (hm : m = ys.length) (hg : g = W1.heap.size) (hcs : cs.toList = ys.flatMap enc)
    (h1 : ∀ u ∈ ys.flatMap enc, u.oneCell' = true) (hb : (l.length + ys.length) * bytes ≤ 140737488355328) (hb' : l.length + ys.length ≤ 9223372036854775807)
    (h : ∀ v' (z1 : Extd Wb), Own enc e sz Wb.heap.size z1.val v' (l ++ ys) → wpList P ops Q rest (a.put o.dst v') z1.val) : wpList P ops Q (o :: rest) a (W1.alloc (.cells cs e')) := by
  subst hg; subst hm
  obtain ⟨i, z, hi, hz, hsize, hby, hzs⟩ := F.info
  have hown' : (W1.alloc (.cells cs e')).ownsRow Wb.heap.size e sz v l.length (l.flatMap enc) := hown.up ((Ext.refl _).alloc _)
  have hE' := hE.alloc (.cells cs e')
  refine wpList_append_own _ hgd s x t ho Wb.heap.size e i z sz bytes F.und hi hz hsize hby hzs F.pos v l.length (l.flatMap enc) hs hown' ⟨W1.heap.size, 0, none⟩ ys.length c (ys.flatMap enc) hx (flatMap_length he ys) (fun j u hu => ?_) h1 (by simpa [maxLen] using hb') hb hE'.size ?_
  · have e1 : (⟨W1.heap.size, 0, none⟩ : Addr).add j = ⟨W1.heap.size, j, none⟩ := by unfold Addr.add; split <;> simp_all
    rw [e1, cell_of_row _ W1.heap.size j cs e' (0, 0) (heap_alloc_new W1 _), ← Array.getElem?_toList, hcs]
    exact hu
  · intro v' w1 hown1 hg1 _
    refine h v' ⟨w1, hE'.grown hg1 fun k hk => (World.ownsRow.lt hown' k hk).1⟩ ?_
    show w1.ownsRow _ _ _ _ _ _
    simpa [Own] using hown1
/-- .. in a region that draws its order. -/
theorem step_pushL {P : Program} {t e sz bytes : Nat} (F : AppFacts P t e sz bytes) {ops : Array Oper} {o : Oper} {a : Act} {K : Act → World → Prop} {Q : Exit → Act → World → Prop} {E : Prop} (hgd : o.guard = none) (s x : Operand)
    (ho : o.op = .call { callee := .builtin .append, args := #[s, x], argTypes := #[t, t] }) {α : Type} (enc : α → List Value) (he : ∀ x, (enc x).length = sz) (Wb : World) {W1 : World} {cs : Array Value} {e' : TypeId} (ys : List α) (l : List α) {v : Value} (hs : a.eval s = v)
    (hown : Own enc e sz Wb.heap.size W1 v l) (hE : Ext Wb W1) {g m c : Nat} (hx : a.eval x = .slice (some ⟨g, 0, none⟩) m c) (hm : m = ys.length) (hm0 : 0 < m) (hg : g = W1.heap.size) (hcs : cs.toList = ys.flatMap enc)
    (h1 : ∀ u ∈ ys.flatMap enc, u.oneCell' = true) (hb : (l.length + ys.length) * bytes ≤ 140737488355328) (hb' : l.length + ys.length ≤ 9223372036854775807)
    (h : ∀ v' (z1 : Extd Wb), Own enc e sz Wb.heap.size z1.val v' (l ++ ys) → K (a.put o.dst v') z1.val) :
    if Region.wanted o (yielded ops a.tmps) = true then Oper.wp P o a (W1.alloc (.cells cs e')).drew K Q else E := by
  subst hg; subst hm
  obtain ⟨i, z, hi, hz, hsize, hby, hzs⟩ := F.info
  have hown' : (W1.alloc (.cells cs e')).drew.ownsRow Wb.heap.size e sz v l.length (l.flatMap enc) := hown.up ((Ext.refl _).alloc _).drew
  have hE' := (hE.alloc (.cells cs e')).drew
  refine step_append_lies _ hgd s x t ho Wb.heap.size e i z sz bytes F.und hi hz hsize hby hzs F.pos v l.length (l.flatMap enc) hs hown' ⟨W1.heap.size, 0, none⟩ ys.length c (ys.flatMap enc) hx (flatMap_length he ys) (fun j u hu => ?_) h1 hm0 (by simpa [maxLen] using hb') hb hE'.size _ rfl ?_
  · have e1 : (⟨W1.heap.size, 0, none⟩ : Addr).add j = ⟨W1.heap.size, j, none⟩ := by unfold Addr.add; split <;> simp_all
    rw [e1, cell_of_row (W1.alloc (.cells cs e')).drew W1.heap.size j cs e' (0, 0) (heap_alloc_new W1 _), ← Array.getElem?_toList, hcs]
    exact hu
  · intro g cap w1 hown1 hg1 _ _
    refine h _ ⟨w1, hE'.grown hg1 fun k hk => (World.ownsRow.lt hown' k hk).1⟩ ?_
    show w1.ownsRow _ _ _ _ _ _
    simpa [Own] using hown1
theorem oneIs (l : List Int) : ∀ u ∈ l.flatMap encI, u.oneCell' = true := by
  intro u hu
  obtain ⟨x, _, h⟩ := List.mem_flatMap.1 hu
  exact oneI x u h
end Go.Proofs.YteiemjebdhmnaaaGreat
namespace Go.Proofs.YteiemjebdhmnaaaGreat
open Go Go.RowKit Go.Proofs

theorem sumOf1_any (n : Int) (w : World) : Calls Tryz.prog 84 #[.int .i64 n] w fun e w' => e = .returned (.bool (!inR n 0 2000000)) ∧ w = w' := by
  go_enter Tryz.func84, Tryz.ntmps84
  go_wp2_with (go_at_call 85; refine (isSummed_any _ _).mono ?_; rintro e w' ⟨rfl, rfl⟩)
  go_ret
  exact ⟨rfl, rfl⟩
set_option maxHeartbeats 1000000 in
theorem indexSummed_any (l : List Int) (v : Value) (w : World) (h : SL (RF encI) 1 w v l) :
    Calls Tryz.prog 117 #[v, .func (.func 84) #[] #[]] w fun e w' => ∃ n : Int, e = .returned (.int .i64 n) ∧ decide (0 ≤ n) = !summed l ∧ w = w' := by
  obtain ⟨p, cap, rfl, hlen, hc⟩ := h.open
  clear h
  unfold summed
  go_enter Tryz.func117, Tryz.ntmps117
  go_wp2_with fail
  go_loop [5, 8] (fun _ s8 => ∃ (k : Nat), s8 = .int .i64 k ∧ k ≤ l.length ∧ (l.take k).all (fun n => inR n 0 2000000) = true) (fun _ s8 => l.length - (intOf s8).toNat)
  case atStart => exact ⟨0, rfl, Nat.zero_le _, rfl⟩
  case round =>
    obtain ⟨k, rfl, hk, hall⟩ := hrel
    by_cases hlt : k < l.length
    · obtain ⟨x, hxk⟩ := getElem?_some_of_lt hlt
      obtain ⟨b, off, rfl, hb, hcc⟩ := hc k x hxk
      have c0 : w.cell? ⟨b, off + k, none⟩ = some (.int .i64 x) := by have := hcc 0 _ rfl; simpa using this
      have k0 : (0 : Int) ≤ (k : Int) := by omega
      have Hx := Lib.hid hxk; have Hall := Lib.hid hall
      clear hc hcc hxk hall
      have kq := fun w => sumOf1_any x w
      rcases hq : inR x 0 2000000 with _ | _
      · rw [hq] at kq
        go_wp2_with (go_at_call 84; refine (kq _).mono ?_; rintro e w' ⟨rfl, rfl⟩)
        go_ret
        refine ⟨_, rfl, ?_, rfl⟩
        rw [List.all_eq_false.2 ⟨x, List.mem_of_getElem? Hx.out, by simp [hq]⟩]; simp
      · rw [hq] at kq
        go_wp2_with (go_at_call 84; refine (kq _).mono ?_; rintro e w' ⟨rfl, rfl⟩)
        go_round
        case rel => exact ⟨k + 1, by go_num, by omega, by rw [List.take_add_one, Hx.out, List.all_append, Hall.out]; simp [hq]⟩
        case measure => simp [intOf]; omega
    · go_wp2_with fail
      go_ret
      refine ⟨_, rfl, ?_, rfl⟩
      have : l.take k = l := List.take_of_length_le (by omega)
      rw [this] at hall
      rw [hall]; rfl
theorem containsSummed_any (l : List Int) (v : Value) (w : World) (h : SL (RF encI) 1 w v l) :
    Calls Tryz.prog 83 #[v, .func (.func 84) #[] #[]] w fun e w' => e = .returned (.bool (!summed l)) ∧ w = w' := by
  have H := Lib.hid h; clear h
  go_enter Tryz.func83, Tryz.ntmps83
  go_wp2_with (go_at_call 117; refine (indexSummed_any l _ _ H.out).mono ?_; rintro e w' ⟨n, rfl, hn, rfl⟩)
  go_ret
  exact ⟨rfl, rfl⟩
theorem more_any (s n : Int) (w : World) (h0 : 0 ≤ s) (h1 : s ≤ 1000002) (h2 : 0 ≤ n) (h3 : n ≤ 2000000) : Calls Tryz.prog 86 #[.int .i64 s, .int .i64 n] w fun e w' => e = .returned (.int .i64 (sumStep s n)) ∧ w = w' := by
  unfold sumStep
  go_enter Tryz.func86, Tryz.ntmps86
  go_wp2
  go_ret
  exact ⟨rfl, rfl⟩
set_option maxHeartbeats 1000000 in
theorem sumOf_any (tag : Int) (l : List Int) (v : Value) (w : World) (h : SL (RF encI) 1 w v l) :
    Calls Tryz.prog 37 #[.int .i64 tag, v] w fun e w' => e = .returned (.int .i64 (sumOf tag l)) ∧ Up w w' := by
  have H := Lib.hid h
  obtain ⟨p, cap, rfl, hlen, hc⟩ := h.open
  clear h
  rcases guards2 (inR tag 0 9) (summed l) with h1 | ⟨h1, h2⟩ | ⟨h1, h2⟩
  · rw [sumOf_tag h1]
    go_enter Tryz.func37, Tryz.ntmps37
    go_wp2_with (go_at_call 43; refine (in_any _ _ _ _).mono ?_; rintro e w' ⟨rfl, rfl⟩)
    go_ret
    exact ⟨rfl, (.of (by repeat (first | exact Ext.refl _ | refine Ext.up ?_ _ | refine Ext.alloc ?_ _ | refine Ext.drew ?_ | refine Ext.setRow ?_ (by first | (dsimp only; omega) | exact LeS.le | exact LeS.add _ | (simp; done) | (simp; omega)) _ | refine Ext.setCell ?_ (by first | (dsimp only; omega) | exact LeS.le | exact LeS.add _ | (simp; done) | (simp; omega)) _)))⟩
  · rw [sumOf_no h2]
    go_enter Tryz.func37, Tryz.ntmps37
    go_wp2_with (first | (go_at_call 43; refine (in_any _ _ _ _).mono ?_; rintro e w' ⟨rfl, rfl⟩) | (go_at_call 83; refine (containsSummed_any l _ _ H.out).mono ?_; rintro e w' ⟨rfl, rfl⟩))
    go_ret
    exact ⟨rfl, (.of (by repeat (first | exact Ext.refl _ | refine Ext.up ?_ _ | refine Ext.alloc ?_ _ | refine Ext.drew ?_ | refine Ext.setRow ?_ (by first | (dsimp only; omega) | exact LeS.le | exact LeS.add _ | (simp; done) | (simp; omega)) _ | refine Ext.setCell ?_ (by first | (dsimp only; omega) | exact LeS.le | exact LeS.add _ | (simp; done) | (simp; omega)) _)))⟩
  obtain ⟨t0, t9⟩ := inR_iff.1 h1
  rw [sumOf_yes t0 t9 h2]
  go_enter Tryz.func37, Tryz.ntmps37
  go_wp2_with (first | (go_at_call 43; refine (in_any _ _ _ _).mono ?_; rintro e w' ⟨rfl, rfl⟩) | (go_at_call 83; refine (containsSummed_any l _ _ H.out).mono ?_; rintro e w' ⟨rfl, rfl⟩))
  have H2 := Lib.hid h2; clear h1 h2
  go_loop [5, 7, 19] (fun s5 _ s19 => ∃ k : Nat, s19 = .int .i64 k ∧ s5 = .int .i64 (sumL (17 + tag) (l.take k)) ∧ k ≤ l.length) (fun _ _ s19 => l.length - (intOf s19).toNat)
  case atStart => exact ⟨0, rfl, rfl, Nat.zero_le _⟩
  case round =>
    obtain ⟨k, rfl, rfl, hk⟩ := hrel
    by_cases hlt : k < l.length
    · obtain ⟨x, hxk⟩ := getElem?_some_of_lt hlt
      obtain ⟨b, off, rfl, hb, hcc⟩ := hc k x hxk
      have c0 : w.cell? ⟨b, off + k, none⟩ = some (.int .i64 x) := by have := hcc 0 _ rfl; simpa using this
      obtain ⟨s0, s1⟩ := sumTo_in t0 t9 (l.take k)
      obtain ⟨x0, x1⟩ := summed_at H2.out hxk
      have Hs := Lib.hid (sumL_snoc (17 + tag) hxk)
      clear hc hcc hxk
      go_wp2_with (go_at_call 86; refine (more_any _ _ _ s0 (by omega) x0 x1).mono ?_; rintro e w' ⟨rfl, rfl⟩)
      go_round
      case rel => exact ⟨k + 1, by go_num, by rw [Hs.out], by omega⟩
      case measure => simp [intOf]; omega
    · go_wp2_with fail
      go_ret
      obtain rfl : k = l.length := by omega
      rw [List.take_length]
      exact ⟨rfl, (.of (by repeat (first | exact Ext.refl _ | refine Ext.up ?_ _ | refine Ext.alloc ?_ _ | refine Ext.drew ?_ | refine Ext.setRow ?_ (by first | (dsimp only; omega) | exact LeS.le | exact LeS.add _ | (simp; done) | (simp; omega)) _ | refine Ext.setCell ?_ (by first | (dsimp only; omega) | exact LeS.le | exact LeS.add _ | (simp; done) | (simp; omega)) _)))⟩
set_option maxHeartbeats 1000000 in
theorem l1Sum_any (tag : Int) (l : List Int) (v : Value) (w : World) (h : SL (RF encI) 1 w v l) (t0 : 0 ≤ tag) (t9 : tag ≤ 9) (h2 : summed l = true) :
    Calls Tryz.prog 80 #[.int .i64 tag, v] w fun e w' => e = .returned (.int .i64 (sumL (17 + tag) l)) ∧ w = w' := by
  obtain ⟨p, cap, rfl, hlen, hc⟩ := h.open
  have H2 := Lib.hid h2
  clear h h2
  go_enter Tryz.func80, Tryz.ntmps80
  go_wp2_with fail
  go_loop [5, 6] (fun s5 s6 => ∃ k : Nat, s6 = .int .i64 k ∧ s5 = .int .i64 (sumL (17 + tag) (l.take k)) ∧ k ≤ l.length) (fun _ s6 => l.length - (intOf s6).toNat)
  case atStart => exact ⟨0, rfl, rfl, Nat.zero_le _⟩
  case round =>
    obtain ⟨k, rfl, rfl, hk⟩ := hrel
    by_cases hlt : k < l.length
    · obtain ⟨x, hxk⟩ := getElem?_some_of_lt hlt
      obtain ⟨b, off, rfl, hb, hcc⟩ := hc k x hxk
      have c0 : w.cell? ⟨b, off + k, none⟩ = some (.int .i64 x) := by have := hcc 0 _ rfl; simpa using this
      obtain ⟨s0, s1⟩ := sumTo_in t0 t9 (l.take k)
      obtain ⟨x0, x1⟩ := summed_at H2.out hxk
      have hs := sumL_snoc (17 + tag) hxk
      unfold sumStep at hs
      have Hs := Lib.hid hs
      clear hc hcc hxk hs
      go_wp2_with fail
      go_round
      case rel => exact ⟨k + 1, by go_num, by rw [Hs.out], by omega⟩
      case measure => simp [intOf]; omega
    · go_wp2_with fail
      go_ret
      obtain rfl : k = l.length := by omega
      rw [List.take_length]
      exact ⟨rfl, rfl⟩
end Go.Proofs.YteiemjebdhmnaaaGreat
namespace Go.Proofs.YteiemjebdhmnaaaGreat
open Go Go.RowKit Go.Proofs

set_option maxHeartbeats 2000000 in
theorem writes_any (x : Actn) (w : World) : Calls Tryz.prog 107 #[.agg #[.int .i64 x.kind, .int .i64 x.src, .int .i64 x.dst, .int .i64 x.amt]] w fun e w' => ∃ v, e = .returned v ∧ Up w w' ∧ Own encI 3 1 w.heap.size w' v x.wk := by
  obtain ⟨kind, src, dst, amt⟩ := x
  dsimp only
  rcases kinds kind with hk | hk | hk | hk | hk | hk | ⟨k1, k2, k3, k4, k5, k6⟩
  rotate_right
  have e1 : (kind == 1) = false := by simpa using k1
  have e2 : (kind == 2) = false := by simpa using k2
  have e3 : (kind == 3) = false := by simpa using k3
  have e4 : (kind == 4) = false := by simpa using k4
  have e5 : (kind == 5) = false := by simpa using k5
  have e6 : (kind == 6) = false := by simpa using k6
  all_goals try subst hk
  all_goals rcases eq_cases src dst with ⟨hs, hs'⟩ | ⟨hs, hs'⟩
  all_goals
    try (have HS : Hid (src = dst) := Lib.hid hs; clear hs)
    go_enter Tryz.func107, Tryz.ntmps107
    go_wp2_with (fail)
    all_goals go_ret
    all_goals refine ⟨_, rfl, (.of (by repeat (first | exact Ext.refl _ | refine Ext.up ?_ _ | refine Ext.alloc ?_ _ | refine Ext.drew ?_ | refine Ext.setRow ?_ (by first | (dsimp only; omega) | exact LeS.le | exact LeS.add _ | (simp; done) | (simp; omega)) _ | refine Ext.setCell ?_ (by first | (dsimp only; omega) | exact LeS.le | exact LeS.add _ | (simp; done) | (simp; omega)) _))), ?_⟩
    all_goals try have hs := HS.out
    all_goals simp [Actn.wk, *]
    all_goals first | exact Own.nil _ _ _ _ _ | (refine Own.lit (by simp) (by first | exact LeS.le | (simp; done)) rfl ?_ encI_length (by simp); first | rfl | (simp [encI]; omega))
set_option maxHeartbeats 2000000 in
theorem sReads_any (x : Actn) (w : World) : Calls Tryz.prog 127 #[.agg #[.int .i64 x.kind, .int .i64 x.src, .int .i64 x.dst, .int .i64 x.amt]] w fun e w' => ∃ v, e = .returned v ∧ Up w w' ∧ Own encI 3 1 w.heap.size w' v (if x.ok = true then x.rk else []) := by
  rcases hv : x.ok with _ | _
  · rw [if_neg (by decide)]
    go_enter Tryz.func127, Tryz.ntmps127
    go_wp2_with ((go_at_call 111; refine (sActionValid_any ⟨_, _, _, _⟩ _).mono ?_; rintro e w' ⟨rfl, z, rfl⟩))
    go_ret
    refine ⟨_, rfl, (.of (by repeat (first | exact Ext.refl _ | refine Ext.up ?_ _ | refine Ext.alloc ?_ _ | refine Ext.drew ?_ | refine Ext.setRow ?_ (by first | (dsimp only; omega) | exact LeS.le | exact LeS.add _ | (simp; done) | (simp; omega)) _ | refine Ext.setCell ?_ (by first | (dsimp only; omega) | exact LeS.le | exact LeS.add _ | (simp; done) | (simp; omega)) _))), ?_⟩
    refine Own.lit (by simp) ?_ rfl rfl encI_length (by simp)
    exact LeS.le
  rw [if_pos rfl]
  obtain ⟨kind, src, dst, amt⟩ := x
  dsimp only
  rcases kinds kind with hk | hk | hk | hk | hk | hk | ⟨k1, k2, k3, k4, k5, k6⟩
  rotate_right
  have e1 : (kind == 1) = false := by simpa using k1
  have e2 : (kind == 2) = false := by simpa using k2
  have e3 : (kind == 3) = false := by simpa using k3
  have e4 : (kind == 4) = false := by simpa using k4
  have e5 : (kind == 5) = false := by simpa using k5
  have e6 : (kind == 6) = false := by simpa using k6
  all_goals try subst hk
  all_goals rcases eq_cases src dst with ⟨hs, hs'⟩ | ⟨hs, hs'⟩
  all_goals
    try (have HS : Hid (src = dst) := Lib.hid hs; clear hs)
    go_enter Tryz.func127, Tryz.ntmps127
    go_wp2_with ((go_at_call 111; refine (sActionValid_any ⟨_, _, _, _⟩ _).mono ?_; rintro e w' ⟨rfl, z, rfl⟩))
    all_goals go_ret
    all_goals refine ⟨_, rfl, (.of (by repeat (first | exact Ext.refl _ | refine Ext.up ?_ _ | refine Ext.alloc ?_ _ | refine Ext.drew ?_ | refine Ext.setRow ?_ (by first | (dsimp only; omega) | exact LeS.le | exact LeS.add _ | (simp; done) | (simp; omega)) _ | refine Ext.setCell ?_ (by first | (dsimp only; omega) | exact LeS.le | exact LeS.add _ | (simp; done) | (simp; omega)) _))), ?_⟩
    all_goals try have hs := HS.out
    all_goals simp [Actn.rk, *]
    all_goals first | exact Own.nil _ _ _ _ _ | (refine Own.lit (by simp) (by first | exact LeS.le | (simp; done)) rfl ?_ encI_length (by simp); first | rfl | (simp [encI]; omega))
end Go.Proofs.YteiemjebdhmnaaaGreat
namespace Go.Proofs.YteiemjebdhmnaaaGreat
open Go Go.RowKit Go.Proofs

end Go.Proofs.YteiemjebdhmnaaaGreat
namespace Go.Proofs.YteiemjebdhmnaaaGreat
open Go Go.RowKit Go.Proofs

theorem common_next {a b : List Int} {k : Nat} {x : Int} (h : a[k]? = some x) (h0 : common (a.take k) b = false) (h1 : b.contains x = false) : common (a.take (k + 1)) b = false := by
  rw [List.take_add_one, h]; simp only [common, List.any_append, Option.toList_some, List.any_cons, List.any_nil, Bool.or_false, Bool.or_eq_false_iff] at *
  exact ⟨h0, h1⟩
theorem common_hit {a b : List Int} {k j : Nat} {x : Int} (h : a[k]? = some x) (h1 : b[j]? = some x) : common a b = true := by
  simp only [common, List.any_eq_true, List.contains_iff_mem]
  exact ⟨x, List.mem_of_getElem? h, List.mem_of_getElem? h1⟩
theorem contains_next {b : List Int} {j : Nat} {x y : Int} (h : b[j]? = some y) (h0 : (b.take j).contains x = false) (h1 : (x == y) = false) : (b.take (j + 1)).contains x = false := by
  have h1' : ¬ x = y := by simpa using h1
  rw [List.take_add_one, h]
  simp only [List.contains_eq_mem, List.mem_append, Option.toList_some, List.mem_singleton, decide_eq_false_iff_not, not_or] at *
  exact ⟨h0, h1'⟩

end Go.Proofs.YteiemjebdhmnaaaGreat
namespace Go.Proofs.YteiemjebdhmnaaaGreat
open Go Go.RowKit Go.Proofs

section
variable {P : Program} {ops : Array Oper} {Q : Exit → Act → World → Prop} {md : Region.Mode} {S : World → Prop}
/-- A guarded operation that is passed over. -/
theorem take_skip (i d : Nat) {oi : Oper} {fuel : Nat} {listed : Array Bool} {a : Act} {w : World} (hi : ops[i]? = some oi) (hd : oi.dst = some d)
    (hs : Region.noSelect ops = true) (hf : Region.free md ops listed i = true) (hr : (Region.ready md ops listed).contains i = true)
    (hQ : ∀ c a w, Q (.panic c) (a.put oi.dst undef) w → Q (.panic c) a w) (hw : Region.wanted oi (yielded ops a.tmps) = false) (hS : S w)
    (h : wpAnyH P md ops Q S fuel (listed.setIfInBounds i true) (a.put (some d) undef) w) : wpAnyH P md ops Q S (fuel + 1) listed a w :=
  wpAnyH_take hi hs hf hr hQ (.inr ⟨hw, rfl⟩) hS (hd ▸ h)
/-- An operation that yields v. -/
theorem take_val (i d : Nat) (v : Value) {oi : Oper} {fuel : Nat} {listed : Array Bool} {a : Act} {w : World} (hi : ops[i]? = some oi) (hd : oi.dst = some d)
    (hs : Region.noSelect ops = true) (hf : Region.free md ops listed i = true) (hr : (Region.ready md ops listed).contains i = true)
    (hQ : ∀ c a w, Q (.panic c) (a.put oi.dst v) w → Q (.panic c) a w) (hw : Region.wanted oi (yielded ops a.tmps) = true) (hv : ∀ w, S w → (execOp a.eval oi).run P w = .ok (.value v) w) (hS : S w)
    (h : wpAnyH P md ops Q S fuel (listed.setIfInBounds i true) (a.put (some d) v) w) : wpAnyH P md ops Q S (fuel + 1) listed a w :=
  wpAnyH_take hi hs hf hr hQ (.inl ⟨hw, hv⟩) hS (hd ▸ h)
/-- A call, the only operation that may come up. -/
theorem take_call (i d : Nat) (f : Nat) (args : Array Value) {oi : Oper} {fuel : Nat} {listed : Array Bool} {a : Act} {w : World} (hi : ops[i]? = some oi) (hd : oi.dst = some d)
    (hr : Region.ready md ops listed = [i]) (hw : Region.wanted oi (yielded ops a.tmps) = true)
    (hv : (execOp a.eval oi).run P w = .ok (.enter f args) w)
    (hc : Calls P f args w fun e w' => ∃ v, e = .returned v ∧ S w' ∧ wpAnyH P md ops Q S fuel (listed.setIfInBounds i true) (a.put (some d) v) w') : wpAnyH P md ops Q S (fuel + 1) listed a w := by
  refine wpAnyH_all hr (by simp) ?_
  intro j hj
  rw [List.mem_singleton] at hj
  subst hj
  unfold wpOp
  simp only [hi, hw, if_true, Oper.wp, hv, Oper.upon]
  refine .inl (Calls.mono hc fun e w'' he => ?_)
  obtain ⟨v, rfl, hS, h⟩ := he
  exact ⟨hS, by rw [hd]; exact h⟩
end

theorem common_nil (a : List Int) : common a [] = false := by simp [common]
theorem nil_common (a : List Int) : common [] a = false := rfl
def wks (x : Actn) : List Int := if x.ok = true then x.wk else []
def rks (x : Actn) : List Int := if x.ok = true then x.rk else []
theorem conflict_eq (x y : Actn) : conflict x y = (common (wks x) (wks y) || (common (wks x) (rks y) || common (rks x) (wks y))) := by
  unfold conflict conf wks rks
  cases x.ok <;> cases y.ok <;> simp [common_nil, nil_common]
end Go.Proofs.YteiemjebdhmnaaaGreat
namespace Go.Proofs.YteiemjebdhmnaaaGreat
open Go Go.RowKit Go.Proofs

/-- x is among l's. -/
def hasI (l : List Int) (x : Int) : Bool := l.contains x
theorem hasI_iff {l : List Int} {x : Int} : hasI l x = true ↔ x ∈ l := by simp [hasI]
theorem hasI_not {l : List Int} {x : Int} : hasI l x = false ↔ x ∉ l := by rw [← hasI_iff]; simp
set_option maxHeartbeats 1000000 in
theorem indexI_any (l : List Int) (v : Value) (x : Int) (w : World) (h : SL (RF encI) 1 w v l) :
    Calls Tryz.prog 104 #[v, .int .i64 x] w fun e w' => ∃ n : Int, e = .returned (.int .i64 n) ∧ decide (0 ≤ n) = hasI l x ∧ w = w' := by
  obtain ⟨a, cap, rfl, hlen, hc⟩ := h.open
  clear h
  go_enter Tryz.func104, Tryz.ntmps104
  go_wp2_with fail
  go_loop [5, 8] (fun _ s8 => ∃ k : Nat, s8 = .int .i64 k ∧ k ≤ l.length ∧ hasI (l.take k) x = false) (fun _ s8 => l.length - (intOf s8).toNat)
  case atStart => exact ⟨0, rfl, Nat.zero_le _, rfl⟩
  case round =>
    obtain ⟨k, rfl, hk, hall⟩ := hrel
    by_cases hlt : k < l.length
    · obtain ⟨y, hyk⟩ := getElem?_some_of_lt hlt
      obtain ⟨b, off, rfl, hb, hcc⟩ := hc k y hyk
      have c0 : w.cell? ⟨b, off + k, none⟩ = some (.int .i64 y) := by have := hcc 0 _ rfl; simpa using this
      have Hy := Lib.hid hyk; have Hall := Lib.hid hall
      clear hcc hc hyk hall
      rcases eq_cases x y with ⟨h1, h1'⟩ | ⟨h1, h1'⟩
      · have H1 := Lib.hid h1; clear h1
        go_wp2_with fail
        go_ret
        refine ⟨_, rfl, ?_, rfl⟩
        have : x ∈ l := by rw [H1.out]; exact List.mem_of_getElem? Hy.out
        rw [hasI_iff.2 this]; simp
      · have H1 := Lib.hid h1'
        go_wp2_with fail
        go_round
        case rel => exact ⟨k + 1, by go_num, by omega, contains_next Hy.out Hall.out H1.out⟩
        case measure => simp [intOf]; omega
    · go_wp2_with fail
      go_ret
      obtain rfl : k = l.length := by omega
      rw [List.take_length] at hall
      exact ⟨_, rfl, by rw [hall]; rfl, rfl⟩
theorem containsI_any (l : List Int) (v : Value) (x : Int) (w : World) (h : SL (RF encI) 1 w v l) :
    Calls Tryz.prog 72 #[v, .int .i64 x] w fun e w' => e = .returned (.bool (hasI l x)) ∧ w = w' := by
  have H := Lib.hid h; clear h
  go_enter Tryz.func72, Tryz.ntmps72
  go_wp2_with (go_at_call 104; refine (indexI_any l _ _ _ H.out).mono ?_; rintro e w' ⟨n, rfl, hn, rfl⟩)
  go_ret
  exact ⟨rfl, rfl⟩
def cfAt (l : List Actn) (m n : Int) : Bool := match l[m.toNat]?, l[n.toNat]? with
  | some x, some y => conf x y
  | _, _ => false
def pairOk (l : List Actn) (o : List Int) (k j : Nat) : Bool := match o[j]?, o[k]? with
  | some m, some n => decide (m ≠ n) && !(decide (n < m) && cfAt l m n)
  | _, _ => true
def ordAt (l : List Actn) (o : List Int) (k : Nat) : Bool := match o[k]? with
  | some n => inR n 0 ((l.length : Int) - 1) && upTo (pairOk l o k) k
  | none => true
def ordOk (l : List Actn) (o : List Int) : Bool := actsOk l && (decide (o.length = l.length) && upTo (ordAt l o) o.length)
theorem pairOk_eq {l : List Actn} {o : List Int} {k j : Nat} {m n : Int} (hm : o[j]? = some m) (hn : o[k]? = some n) : pairOk l o k j = (decide (m ≠ n) && !(decide (n < m) && cfAt l m n)) := by simp [pairOk, hm, hn]
theorem cfAt_eq {l : List Actn} {m n : Int} {x y : Actn} (hx : l[m.toNat]? = some x) (hy : l[n.toNat]? = some y) : cfAt l m n = conf x y := by simp [cfAt, hx, hy]
theorem ordAt_eq {l : List Actn} {o : List Int} {k : Nat} {n : Int} (hn : o[k]? = some n) : ordAt l o k = (inR n 0 ((l.length : Int) - 1) && upTo (pairOk l o k) k) := by simp [ordAt, hn]
theorem ordAt_in {l : List Actn} {o : List Int} {k j : Nat} {m : Int} (h : upTo (ordAt l o) k = true) (hj : j < k) (hm : o[j]? = some m) : 0 ≤ m ∧ m < l.length := by
  have := upTo_iff.1 h j hj
  rw [ordAt_eq hm, Bool.and_eq_true, inR_iff] at this
  omega
theorem pair_same {l : List Actn} {o : List Int} {k : Nat} {n : Int} (hn : o[k]? = some n) (h : hasI (o.take k) n = true) : upTo (pairOk l o k) k = false := by
  have hm : n ∈ o.take k := hasI_iff.1 h
  obtain ⟨j, hj⟩ := List.getElem?_of_mem hm
  have hjk : j < k := by have := (List.getElem?_eq_some_iff.1 hj).1; simp at this; omega
  rw [List.getElem?_take_of_lt hjk] at hj
  exact upTo_false hjk (by rw [pairOk_eq hj hn]; simp)
theorem ne_of_contains {o : List Int} {k j : Nat} {m n : Int} (h : hasI (o.take k) n = false) (hj : j < k) (hm : o[j]? = some m) : m ≠ n := by
  rintro rfl
  have : m ∈ o.take k := List.mem_of_getElem? (i := j) (by rw [List.getElem?_take_of_lt hj]; exact hm)
  exact hasI_not.1 h this
theorem actsOk_at {l : List Actn} (h : actsOk l = true) {i : Nat} {x : Actn} (hx : l[i]? = some x) : x.ok = true := by
  simp only [actsOk, Bool.and_eq_true, List.all_eq_true] at h
  exact h.2 x (List.mem_of_getElem? hx)
theorem actsOk_len {l : List Actn} (h : actsOk l = true) : l.length ≤ 10 := by
  simp only [actsOk, Bool.and_eq_true, decide_eq_true_eq] at h
  omega
theorem acell {w : World} {l : List Actn} {a : Option Addr} (hc : ∀ (k : Nat) x, l[k]? = some x → ∃ b off, a = some ⟨b, off, none⟩ ∧ LtS b w ∧ ∀ j u, (Actn.enc x)[j]? = some u → w.cell? ⟨b, off + k * 4 + j, none⟩ = some u) {b off : Nat} (ha : a = some ⟨b, off, none⟩) {k : Nat} {x : Actn} (hx : l[k]? = some x) :
    w.cell? ⟨b, off + k * 4, none⟩ = some (.int .i64 x.kind) ∧ w.cell? ⟨b, off + k * 4 + 1, none⟩ = some (.int .i64 x.src) ∧ w.cell? ⟨b, off + k * 4 + 2, none⟩ = some (.int .i64 x.dst) ∧ w.cell? ⟨b, off + k * 4 + 3, none⟩ = some (.int .i64 x.amt) := by
  obtain ⟨b', off', e, _, hcc⟩ := hc k x hx
  rw [ha] at e
  simp only [Option.some.injEq, Addr.mk.injEq, and_true] at e
  obtain ⟨rfl, rfl⟩ := e
  exact ⟨hcc 0 _ rfl, hcc 1 _ rfl, hcc 2 _ rfl, hcc 3 _ rfl⟩
end Go.Proofs.YteiemjebdhmnaaaGreat
