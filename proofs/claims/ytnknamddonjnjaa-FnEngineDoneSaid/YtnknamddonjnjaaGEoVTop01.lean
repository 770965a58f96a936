/- Plain laws: stores of entries, the values of all keys, versions that are read, sums. Plain ground: arrays of numbers, one block each. Walks: stores and the values of all keys. -/
import Derived.Test.YtnknamddonjnjaaGEoVTop00
import Derived.Laws.Rows
set_option linter.unusedSimpArgs false
set_option linter.unusedVariables false
namespace Go.Proofs.Ytnknamddonjnjaa
open Go Go.RowKit

/-! ### Entries -/
def entAt (least : Int) (l : List Ent) (i : Nat) : Bool := match l[i]? with
  | none => true
  | some x => (inR x.k 0 31 && inR x.v least 1000000) && (decide (i = 0) || match l[i - 1]? with | none => true | some y => decide (y.k < x.k))
theorem entAt_first {least : Int} {l : List Ent} {i : Nat} {x : Ent} (h : l[i]? = some x) (hi : ¬ 0 < i) : entAt least l i = (inR x.k 0 31 && inR x.v least 1000000) := by
  obtain rfl : i = 0 := by omega
  simp [entAt, h]
theorem entAt_next {least : Int} {l : List Ent} {i : Nat} {x y : Ent} (h : l[i]? = some x) (hi : 0 < i) (hy : l[i - 1]? = some y) : entAt least l i = ((inR x.k 0 31 && inR x.v least 1000000) && decide (y.k < x.k)) := by
  have : i ≠ 0 := by omega
  simp [entAt, h, hy, this]
def entsOk (least : Int) (l : List Ent) : Bool := upTo (entAt least l) l.length
theorem entAt_in {least : Int} {l : List Ent} {i : Nat} {x : Ent} (h : l[i]? = some x) (hf : entAt least l i = true) : 0 ≤ x.k ∧ x.k ≤ 31 ∧ least ≤ x.v ∧ x.v ≤ 1000000 := by
  simp only [entAt, h, Bool.and_eq_true, inR_iff] at hf
  exact ⟨hf.1.1.1, hf.1.1.2, hf.1.2.1, hf.1.2.2⟩
theorem entAt_lt {least : Int} {l : List Ent} {i : Nat} {x y : Ent} (h : l[i + 1]? = some x) (hy : l[i]? = some y) (hf : entAt least l (i + 1) = true) : y.k < x.k := by
  rw [entAt_next h (by omega) (by simpa using hy)] at hf
  simp at hf; exact hf.2
theorem entsOk_at {least : Int} {l : List Ent} (h : entsOk least l = true) {i : Nat} {x : Ent} (hx : l[i]? = some x) : 0 ≤ x.k ∧ x.k ≤ 31 ∧ least ≤ x.v ∧ x.v ≤ 1000000 :=
  entAt_in hx (upTo_iff.1 h i (List.getElem?_eq_some_iff.1 hx).1)
theorem entsOk_mem {least : Int} {l : List Ent} (h : entsOk least l = true) {x : Ent} (hx : x ∈ l) : 0 ≤ x.k ∧ x.k ≤ 31 ∧ least ≤ x.v ∧ x.v ≤ 1000000 := by
  obtain ⟨i, hi⟩ := List.getElem?_of_mem hx
  exact entsOk_at h hi
theorem upTo_mono {f : Nat → Bool} {k n : Nat} (h : upTo f n = true) (hk : k ≤ n) : upTo f k = true := upTo_iff.2 fun i hi => upTo_iff.1 h i (by omega)
theorem asc_of {least : Int} {l : List Ent} (h : entsOk least l = true) : l.Pairwise fun a b => a.k < b.k := by
  have key : ∀ n (i : Nat) x y, l[i]? = some x → l[i + (n + 1)]? = some y → x.k < y.k := by
    intro n
    induction n with
    | zero => intro i x y hx hy; exact entAt_lt hy hx (upTo_iff.1 h _ (List.getElem?_eq_some_iff.1 hy).1)
    | succ n ih =>
      intro i x y hx hy
      have hlt := (List.getElem?_eq_some_iff.1 hy).1
      obtain ⟨z, hz⟩ := getElem?_some_of_lt (show i + (n + 1) < l.length by omega)
      have h1 := ih i x z hx hz
      have h2 := entAt_lt (y := z) hy hz (upTo_iff.1 h _ hlt)
      omega
  rw [List.pairwise_iff_getElem]
  intro i j hi hj hij
  have := key (j - i - 1) i l[i] l[j] (by simp) (by rw [show i + (j - i - 1 + 1) = j from by omega]; simp)
  exact this
theorem asc_len_aux : ∀ (l : List Ent) (lo : Int), l.Pairwise (fun a b => a.k < b.k) → (∀ x ∈ l, lo ≤ x.k ∧ x.k ≤ 31) → (l.length : Int) ≤ max 0 (32 - lo)
  | [], lo, _, _ => by simp; omega
  | a :: l, lo, h, hin => by
    rw [List.pairwise_cons] at h
    have ha := hin a (by simp)
    have := asc_len_aux l (a.k + 1) h.2 (fun x hx => ⟨by have := h.1 x hx; omega, (hin x (by simp [hx])).2⟩)
    simp only [List.length_cons]; omega
theorem entsOk_len {least : Int} {l : List Ent} (h : entsOk least l = true) : l.length ≤ 32 := by
  have := asc_len_aux l 0 (asc_of h) (fun x hx => by have := entsOk_mem h hx; omega)
  omega
theorem entsOk_least {a b : Int} (hab : b ≤ a) {l : List Ent} (h : entsOk a l = true) : entsOk b l = true := by
  refine upTo_iff.2 fun i hi => ?_
  have := upTo_iff.1 h i hi
  unfold entAt at *
  split at this
  · rfl
  · rename_i x h1
    simp only [Bool.and_eq_true, inR_iff] at this ⊢
    exact ⟨⟨this.1.1, by omega, this.1.2.2⟩, this.2⟩

/-! ### The values of all keys -/
def atK (l : List Ent) (key : Int) : Int := match l.find? (fun e => e.k == key) with | some e => e.v | none => 0
def vset (v : List Int) (e : Ent) : List Int := v.set e.k.toNat e.v
def vsets (v : List Int) (l : List Ent) : List Int := l.foldl vset v
def zeros : List Int := List.replicate 32 0
def valsOf (l : List Ent) : List Int := vsets zeros l
theorem vset_length (v : List Int) (e : Ent) : (vset v e).length = v.length := by simp [vset]
theorem vsets_length (l : List Ent) : ∀ v : List Int, (vsets v l).length = v.length := by
  induction l with
  | nil => intro v; rfl
  | cons e l ih => intro v; exact (ih _).trans (vset_length v e)
theorem vsets_snoc (v : List Int) {l : List Ent} {k : Nat} {x : Ent} (h : l[k]? = some x) : vsets v (l.take (k + 1)) = vset (vsets v (l.take k)) x := by
  rw [List.take_add_one, h]; simp [vsets]
theorem zeros_length : zeros.length = 32 := rfl
theorem zeros_get {n : Nat} (h : n < 32) : zeros[n]? = some 0 := by unfold zeros; rw [List.getElem?_replicate, if_pos h]
theorem valsOf_length (l : List Ent) : (valsOf l).length = 32 := (vsets_length l zeros).trans zeros_length
theorem vset_get {v : List Int} {e : Ent} {n : Nat} (h0 : 0 ≤ e.k) (hn : n < v.length) : (vset v e)[n]? = if e.k = (n : Int) then some e.v else v[n]? := by
  unfold vset
  by_cases h : e.k = n
  · rw [if_pos h, show e.k.toNat = n from by omega, List.getElem?_set_self hn]
  · rw [if_neg h, List.getElem?_set_ne (by omega)]
theorem vsets_get : ∀ (l : List Ent) (v : List Int) (n : Nat), l.Pairwise (fun a b => a.k < b.k) → (∀ x ∈ l, 0 ≤ x.k) → n < v.length →
    (vsets v l)[n]? = match l.find? (fun e => e.k == (n : Int)) with | some e => some e.v | none => v[n]?
  | [], v, n, _, _, _ => by simp [vsets]
  | a :: l, v, n, h, h0, hn => by
    rw [List.pairwise_cons] at h
    have ha := h0 a (by simp)
    have ih := vsets_get l (vset v a) n h.2 (fun x hx => h0 x (by simp [hx])) (by rw [vset_length]; exact hn)
    show (vsets (vset v a) l)[n]? = _
    rw [ih, List.find?_cons]
    by_cases hk : a.k = n
    · have hnone : l.find? (fun e => e.k == (n : Int)) = none := by
        rw [List.find?_eq_none]; intro x hx; have := h.1 x hx; simp; omega
      simp only [hnone, vset_get ha hn, hk, beq_self_eq_true, if_true]
    · have : (a.k == (n : Int)) = false := by simpa using hk
      simp only [this, vset_get ha hn, if_neg hk]
theorem valsOf_get {least : Int} {l : List Ent} (h : entsOk least l = true) {n : Nat} (hn : n < 32) : (valsOf l)[n]? = some (atK l n) := by
  unfold valsOf atK
  rw [vsets_get l zeros n (asc_of h) (fun x hx => (entsOk_mem h hx).1) (by rw [zeros_length]; exact hn)]
  cases l.find? (fun e => e.k == (n : Int)) with
  | some e => rfl
  | none => exact zeros_get hn
theorem atK_in {least : Int} {l : List Ent} (h : entsOk least l = true) (h0 : 0 ≤ least) (key : Int) : 0 ≤ atK l key ∧ atK l key ≤ 1000000 := by
  unfold atK
  split
  · rename_i e he
    have := entsOk_mem h (List.mem_of_find?_eq_some he)
    omega
  · omega
/-- The search of a key, entry by entry. -/
def noK (l : List Ent) (key : Int) (k : Nat) : Bool := upTo (fun i => match l[i]? with | none => true | some x => decide (x.k ≠ key)) k
theorem atK_found {l : List Ent} {key : Int} {k : Nat} {x : Ent} (hn : noK l key k = true) (hx : l[k]? = some x) (hk : x.k = key) : atK l key = x.v := by
  have hs : l.take k ++ x :: l.drop (k + 1) = l := by
    have hlt := (List.getElem?_eq_some_iff.1 hx)
    obtain ⟨h1, h2⟩ := hlt
    rw [← h2, ← List.drop_eq_getElem_cons h1, List.take_append_drop]
  have hnone : (l.take k).find? (fun e => e.k == key) = none := by
    rw [List.find?_eq_none]
    intro y hy
    obtain ⟨i, hi⟩ := List.getElem?_of_mem hy
    have hik : i < k := by
      have := (List.getElem?_eq_some_iff.1 hi).1
      simp at this; omega
    rw [List.getElem?_take_of_lt hik] at hi
    have := upTo_iff.1 hn i hik
    simp only [hi] at this
    simpa using this
  unfold atK
  rw [← hs, List.find?_append, hnone, Option.none_or, List.find?_cons, hk]
  simp
theorem atK_none {l : List Ent} {key : Int} (hn : noK l key l.length = true) : atK l key = 0 := by
  have hnone : l.find? (fun e => e.k == key) = none := by
    rw [List.find?_eq_none]
    intro y hy
    obtain ⟨i, hi⟩ := List.getElem?_of_mem hy
    have := upTo_iff.1 hn i (List.getElem?_eq_some_iff.1 hi).1
    simp only [hi] at this
    simpa using this
  unfold atK; rw [hnone]
theorem noK_next {l : List Ent} {key : Int} {k : Nat} {x : Ent} (hn : noK l key k = true) (hx : l[k]? = some x) (hk : x.k ≠ key) : noK l key (k + 1) = true :=
  upTo_succ hn (by simp only [hx]; simpa using hk)

/-! ### Values as a store -/
def stTo (v : List Int) : Nat → List Ent
  | 0 => []
  | k + 1 => stTo v k ++ if 0 < v.getD k 0 then [⟨(k : Int), v.getD k 0⟩] else []
def storeOf (v : List Int) : List Ent := stTo v 32
theorem stTo_len (v : List Int) : ∀ k, (stTo v k).length ≤ k
  | 0 => Nat.le_refl _
  | k + 1 => by have := stTo_len v k; unfold stTo; split <;> simp <;> omega
theorem stTo_yes {v : List Int} {k : Nat} {x : Int} (hx : v[k]? = some x) (h : 0 < x) : stTo v (k + 1) = stTo v k ++ [⟨(k : Int), x⟩] := by
  have : v.getD k 0 = x := by simp [List.getD, hx]
  rw [stTo, this, if_pos h]
theorem stTo_no {v : List Int} {k : Nat} {x : Int} (hx : v[k]? = some x) (h : ¬ 0 < x) : stTo v (k + 1) = stTo v k := by
  have : v.getD k 0 = x := by simp [List.getD, hx]
  rw [stTo, this, if_neg h, List.append_nil]

/-! ### Versions that are read -/
def rdStep (key by_ : Int) (p : Int × Int) (x : Ver) : Int × Int := if x.k = key ∧ x.b < by_ then (x.v, x.b) else p
def readV (base : Int) (l : List Ver) (key by_ : Int) : Int × Int := l.foldl (rdStep key by_) (base, -1)
theorem readV_snoc (base : Int) {l : List Ver} (key by_ : Int) {k : Nat} {x : Ver} (h : l[k]? = some x) : readV base (l.take (k + 1)) key by_ = rdStep key by_ (readV base (l.take k) key by_) x := by
  rw [List.take_add_one, h]; simp [readV]
theorem rdStep_yes {key by_ : Int} {p : Int × Int} {x : Ver} (h : x.k = key) (h' : x.b < by_) : rdStep key by_ p x = (x.v, x.b) := if_pos ⟨h, h'⟩
theorem rdStep_no1 {key by_ : Int} {p : Int × Int} {x : Ver} (h : x.k ≠ key) : rdStep key by_ p x = p := if_neg fun a => h a.1
theorem rdStep_no2 {key by_ : Int} {p : Int × Int} {x : Ver} (h : ¬ x.b < by_) : rdStep key by_ p x = p := if_neg fun a => h a.2

/-! ### Sums -/
def sumStep (s n : Int) : Int := (31 * s + n + 7) % 1000003
def sumL (s : Int) (l : List Int) : Int := l.foldl sumStep s
def summed (l : List Int) : Bool := l.all fun n => inR n 0 2000000
def sumOf (tag : Int) (l : List Int) : Int := if (inR tag 0 9 && summed l) = true then sumL (17 + tag) l else -1
theorem sumStep_in {s n : Int} : 0 ≤ sumStep s n ∧ sumStep s n < 1000003 := by unfold sumStep; omega
theorem sumL_snoc (s : Int) {l : List Int} {k : Nat} {x : Int} (h : l[k]? = some x) : sumL s (l.take (k + 1)) = sumStep (sumL s (l.take k)) x := by
  rw [List.take_add_one, h]; simp [sumL]
theorem sumL_in {s : Int} (h0 : 0 ≤ s) (h1 : s < 1000003) : ∀ l : List Int, 0 ≤ sumL s l ∧ sumL s l < 1000003 := by
  intro l
  induction l generalizing s with
  | nil => exact ⟨h0, h1⟩
  | cons n l ih => exact ih (s := sumStep s n) sumStep_in.1 sumStep_in.2
theorem szOf_eq {n : Int} {len : Nat} (h : ¬ szOf n len < 0) : szOf n len = n - len := by unfold szOf at *; split at h <;> first | omega | (rw [if_neg (by assumption)])
theorem storeOf_le (v : List Int) : (storeOf v).length ≤ 32 := stTo_len v 32
/-- The values that remain. -/
def lastV (s : List Ent) (l : List Ver) : List Int := (List.range 32).map fun key : Nat => (readV (atK s key) l key 10).1
theorem lastV_length (s : List Ent) (l : List Ver) : (lastV s l).length = 32 := by simp [lastV]
theorem lastV_get (s : List Ent) (l : List Ver) {k : Nat} (h : k < 32) : (lastV s l)[k]? = some (readV (atK s k) l k 10).1 := by simp [lastV, h]
def mixV (a b : List Int) (k : Nat) : List Int := a.take k ++ b.drop k
theorem mixV_zero (a b : List Int) : mixV a b 0 = b := by simp [mixV]
theorem mixV_all {a b : List Int} (h : a.length = b.length) : mixV a b b.length = a := by simp [mixV, ← h]
theorem mixV_length {a b : List Int} (h : a.length = b.length) {k : Nat} (hk : k ≤ b.length) : (mixV a b k).length = b.length := by simp [mixV]; omega
theorem mixV_next {a b : List Int} {k : Nat} {x : Int} (h : a.length = b.length) (hx : a[k]? = some x) : (mixV a b k).set k x = mixV a b (k + 1) := by
  have hk : k < a.length := (List.getElem?_eq_some_iff.1 hx).1
  apply List.ext_getElem?
  intro i
  unfold mixV
  by_cases hi : i = k
  · subst hi
    rw [List.getElem?_set_self (by simp; omega), List.getElem?_append_left (by simp; omega), List.getElem?_take_of_lt (by omega), hx]
  · rw [List.getElem?_set_ne (by omega)]
    by_cases h1 : i < k
    · rw [List.getElem?_append_left (by simp; omega), List.getElem?_append_left (by simp; omega), List.getElem?_take_of_lt h1, List.getElem?_take_of_lt (by omega)]
    · rw [List.getElem?_append_right (by simp; omega), List.getElem?_append_right (by simp; omega), List.getElem?_drop, List.getElem?_drop]
      congr 1
      simp; omega
end Go.Proofs.Ytnknamddonjnjaa
namespace Go.Proofs.Ytnknamddonjnjaa
open Go Go.RowKit

def vA (v : List Int) : Array Value := (v.map (Value.int .i64)).toArray
theorem vA_size (v : List Int) : (vA v).size = v.length := by simp [vA]
theorem vA_get (v : List Int) (i : Nat) : (vA v)[i]? = v[i]?.map (Value.int .i64) := by simp [vA]
theorem vA_some {v : List Int} {i : Nat} {x : Int} (h : v[i]? = some x) : (vA v)[i]? = some (.int .i64 x) := by rw [vA_get, h]; rfl
theorem vA_one (v : List Int) : (vA v).all (·.oneCell') = true := by
  rw [Array.all_eq_true_iff_forall_mem]
  intro u hu
  simp only [vA, List.mem_toArray, List.mem_map] at hu
  obtain ⟨x, _, rfl⟩ := hu; rfl
/-- Block g holds the numbers v. -/
def Row (t : TypeId) (w : World) (g : Nat) (v : List Int) : Prop := w.heap[g]? = some (.cells (vA v) t (0, 0))
theorem Row.eq {t : TypeId} {w : World} {g : Nat} {v : List Int} (h : Row t w g v) : w.heap[g]? = some (.cells (vA v) t (0, 0)) := h
theorem Row.lt {t : TypeId} {w : World} {g : Nat} {v : List Int} (h : Row t w g v) : g < w.heap.size := (Array.getElem?_eq_some_iff.1 h).1
theorem Row.lts {t : TypeId} {w : World} {g : Nat} {v : List Int} (h : Row t w g v) : LtS g w := ⟨h.lt⟩
theorem Row.new (t : TypeId) (w : World) (v : List Int) : Row t (w.alloc (.cells (vA v) t)) w.heap.size v := heap_alloc_new w _
theorem Row.of_eq {t : TypeId} {w : World} {g : Nat} {cs : Array Value} {v : List Int} (h : w.heap[g]? = some (.cells cs t (0, 0))) (e : cs = vA v) : Row t w g v := by subst e; exact h
theorem Row.up {t : TypeId} {w w' : World} {g : Nat} {v : List Int} (h : Row t w g v) (hE : Ext w w') : Row t w' g v := (hE.block h.lt).trans h
theorem Row.cell {t : TypeId} {w : World} {g : Nat} {v : List Int} (h : Row t w g v) {i : Nat} {x : Int} (hx : v[i]? = some x) : w.cell? ⟨g, i, none⟩ = some (.int .i64 x) := by
  rw [cell_of_row w g i _ t (0, 0) h]; exact vA_some hx
theorem Row.frozen {t : TypeId} {w : World} {g : Nat} {v : List Int} (h : Row t w g v) (i : Nat) : w.frozen? ⟨g, i, none⟩ = false := frozen_of_row w g i _ t h
theorem vA_set (v : List Int) (i : Nat) (x : Int) : (vA v).setIfInBounds i (.int .i64 x) = vA (v.set i x) := by simp [vA]
theorem Row.set {t : TypeId} {w : World} {g : Nat} {v : List Int} (h : Row t w g v) (i : Nat) (x : Int) : Row t (w.setCell ⟨g, i, none⟩ (.int .i64 x)) g (v.set i x) := by
  unfold Row
  rw [heap_setCell_same w g i _ t _ h, vA_set]
theorem Row.other {t : TypeId} {w : World} {g : Nat} {v : List Int} (h : Row t w g v) {p : Addr} (u : Value) (hne : g ≠ p.block) : Row t (w.setCell p u) g v := (heap_setCell_other w p g u hne).trans h
theorem Row.alloc {t : TypeId} {w : World} {g : Nat} {v : List Int} (h : Row t w g v) (o : Obj) : Row t (w.alloc o) g v := h.up ((Ext.refl w).alloc o)
theorem Row.drew {t : TypeId} {w : World} {g : Nat} {v : List Int} (h : Row t w g v) : Row t w.drew g v := h
theorem Row.setRow {t : TypeId} {w : World} {g : Nat} {v : List Int} (h : Row t w g v) (v' : List Int) : Row t (w.setRow g (vA v')) g v' := setRow_heap w g _ _ t _ h
theorem run_index_vA {P : Program} {t e : TypeId} {n : Nat} (ht : P.underlying t = some (.array n e)) (he : P.underlying e = some (.int .i64)) (hs : (P.info? e).map (·.size) = some 1) {v : List Int} {i : Int} {x : Int} (h0 : 0 ≤ i) (hi : i < n) (hx : v[i.toNat]? = some x) (w : World) :
    (Instr.index t (.agg (vA v)) (.int .i64 i)).run P w = .ok (.int .i64 x) w := by
  have hx' := vA_some hx
  cases hq : P.info? e with
  | none => simp [hq] at hs
  | some info =>
    have h1 : info.size = 1 := by simpa [hq] using hs
    simp [Instr.index, asIntOf, run_underlying ht, run_underlying he, part, isAgg, sizeOf, typeInfo, Sem.run_bind, hq, h1, h0, hi, hx', go_sem]
/-- A whole array is stored into the block that was made last. -/
theorem wpList_store_new {P : Program} {ops : Array Oper} {rest : List Oper} {o : Oper} {a : Act} {W1 : World} {Q : Exit → Act → World → Prop} (hgd : o.guard = none) (ty : TypeId) (x y : Operand) (ho : o.op = .store ty x y)
    {g : Nat} {v : List Int} (hx : a.eval x = .pointer (some ⟨g, 0, none⟩)) (hy : a.eval y = .agg (vA v)) {t : TypeId} {old : Array Value} (hg : g = W1.heap.size)
    (hi : (P.info? ty).map (·.size) = some v.length) (hold : old.size = v.length)
    (h : ∀ z1 : Extd W1, Row t z1.val W1.heap.size v → wpList P ops Q rest (a.put o.dst undef) z1.val) : wpList P ops Q (o :: rest) a (W1.alloc (.cells old t)) := by
  subst hg
  have h0 : (W1.alloc (.cells old t)).heap[W1.heap.size]? = some (.cells old t (0, 0)) := heap_alloc_new _ _
  refine wpList_store_row hgd ty x y ho _ (vA v) hx hy t old h0 (by rw [vA_size]; exact hi) (by rw [vA_size]; exact hold) (vA_one v) ?_
  exact h ⟨_, ((Ext.refl W1).alloc _).setRow (Nat.le_refl _) _⟩ (setRow_heap _ _ _ _ t _ h0)
end Go.Proofs.Ytnknamddonjnjaa
namespace Go.Proofs.Ytnknamddonjnjaa
open Go Go.RowKit Go.Proofs

theorem vA_zeros : vA zeros = #[.int .i64 0, .int .i64 0, .int .i64 0, .int .i64 0, .int .i64 0, .int .i64 0, .int .i64 0, .int .i64 0, .int .i64 0, .int .i64 0, .int .i64 0, .int .i64 0, .int .i64 0, .int .i64 0, .int .i64 0, .int .i64 0, .int .i64 0, .int .i64 0, .int .i64 0, .int .i64 0, .int .i64 0, .int .i64 0, .int .i64 0, .int .i64 0, .int .i64 0, .int .i64 0, .int .i64 0, .int .i64 0, .int .i64 0, .int .i64 0, .int .i64 0, .int .i64 0] := rfl
theorem Try.sInt : (Try.prog.info? 3).map (·.size) = some 1 := by kernel_rfl
theorem Try.sVals : (Try.prog.info? 71).map (·.size) = some 32 := by kernel_rfl
/-- The key of the entry before, -1 ahead of the first. -/
def lastK (l : List Ent) (k : Nat) : Int := if k = 0 then -1 else match l[k - 1]? with | some x => x.k | none => -1
theorem lastK_in {least : Int} {l : List Ent} {k : Nat} (h : upTo (entAt least l) k = true) : -1 ≤ lastK l k ∧ lastK l k ≤ 31 := by
  unfold lastK
  split
  · omega
  · split
    · rename_i x hx
      have := entAt_in hx (upTo_iff.1 h (k - 1) (by omega))
      omega
    · omega
theorem lastK_next {l : List Ent} {k : Nat} {x : Ent} (h : l[k]? = some x) : lastK l (k + 1) = x.k := by simp [lastK, h]
theorem entAt_last {least : Int} {l : List Ent} {k : Nat} {x : Ent} (hx : l[k]? = some x) (h : upTo (entAt least l) k = true) : entAt least l k = (inR x.k (lastK l k + 1) 31 && inR x.v least 1000000) := by
  by_cases h0 : 0 < k
  · obtain ⟨y, hy⟩ := getElem?_some_of_lt (show k - 1 < l.length by have := (List.getElem?_eq_some_iff.1 hx).1; omega)
    have hin := entAt_in hy (upTo_iff.1 h (k - 1) (by omega))
    have e : lastK l k = y.k := by unfold lastK; rw [if_neg (by omega), hy]
    rw [entAt_next hx h0 hy, e, Bool.eq_iff_iff]
    simp only [Bool.and_eq_true, inR_iff, decide_eq_true_eq]
    omega
  · have e : lastK l k = -1 := by unfold lastK; rw [if_pos (by omega)]
    rw [entAt_first hx h0, e]; rfl
set_option maxHeartbeats 1000000 in
theorem entriesValid_any (l : List Ent) (v : Value) (least : Int) (w : World) (h : SL (RF Ent.enc) 2 w v l) :
    Calls Try.prog 35 #[v, .int .i64 least] w fun e w' => e = .returned (.bool (entsOk least l)) ∧ Up w w' := by
  obtain ⟨a, cap, rfl, hlen, hc⟩ := h.open
  clear h
  go_enter Try.func35, Try.ntmps35
  go_wp2_with fail
  go_loopw [5, 7, 10] (fun s5 _ s10 wr => ∃ k : Nat, s10 = .int .i64 k ∧ s5 = .int .i64 (lastK l k) ∧ k ≤ l.length ∧ upTo (entAt least l) k = true ∧ Up w wr) (fun _ _ s10 _ => l.length - (intOf s10).toNat)
  case atStart => exact ⟨0, rfl, rfl, Nat.zero_le _, rfl, .of (Ext.refl _)⟩
  case round =>
    obtain ⟨k, rfl, rfl, hk, hall, z, rfl⟩ := hrel
    by_cases hlt : k < l.length
    · obtain ⟨x, hxk⟩ := getElem?_some_of_lt hlt
      obtain ⟨b, off, rfl, hb, hcc⟩ := hc k x hxk
      have c0 : w.cell? ⟨b, off + k * 2, none⟩ = some (.int .i64 x.k) := hcc 0 _ rfl
      have c1 : w.cell? ⟨b, off + k * 2 + 1, none⟩ = some (.int .i64 x.v) := hcc 1 _ rfl
      obtain ⟨l0, l1⟩ := lastK_in hall
      have Hat := Lib.hid (entAt_last hxk hall)
      have Hn := Lib.hid (lastK_next hxk)
      have Hall := Lib.hid hall
      clear hc hcc hxk hall
      rcases guards2 (inR x.k (lastK l k + 1) 31) (inR x.v least 1000000) with h1 | ⟨h1, h2⟩ | ⟨h1, h2⟩
      case inr.inr =>
        go_wp2_with (go_at_call 39; refine (in_any _ _ _ _).mono ?_; rintro e w' ⟨rfl, rfl⟩)
        go_roundw
        case rel => exact ⟨k + 1, by go_num, by rw [Hn.out], by omega, upTo_succ Hall.out (by rw [Hat.out, h1, h2]; rfl), (.of (by repeat (first | exact Ext.refl _ | refine Ext.up ?_ _ | refine Ext.alloc ?_ _ | refine Ext.drew ?_ | refine Ext.setRow ?_ (by first | (dsimp only; omega) | exact LeS.le | exact LeS.add _ | (simp; done) | (simp; omega)) _ | refine Ext.setCell ?_ (by first | (dsimp only; omega) | exact LeS.le | exact LeS.add _ | (simp; done) | (simp; omega)) _)))⟩
        case measure => simp [intOf]; omega
      all_goals
        go_wp2_with (go_at_call 39; refine (in_any _ _ _ _).mono ?_; rintro e w' ⟨rfl, rfl⟩)
        go_ret
        refine ⟨?_, (.of (by repeat (first | exact Ext.refl _ | refine Ext.up ?_ _ | refine Ext.alloc ?_ _ | refine Ext.drew ?_ | refine Ext.setRow ?_ (by first | (dsimp only; omega) | exact LeS.le | exact LeS.add _ | (simp; done) | (simp; omega)) _ | refine Ext.setCell ?_ (by first | (dsimp only; omega) | exact LeS.le | exact LeS.add _ | (simp; done) | (simp; omega)) _)))⟩
        show Ending.returned (.bool false) = _
        rw [entsOk, upTo_false hlt (by rw [Hat.out]; simp [*])]
    · go_wp2_with fail
      go_ret
      obtain rfl : k = l.length := by omega
      refine ⟨?_, z, rfl⟩; show Ending.returned (.bool true) = _; rw [entsOk, hall]
theorem iStoreValid_any (l : List Ent) (v : Value) (w : World) (h : SL (RF Ent.enc) 2 w v l) :
    Calls Try.prog 14 #[v] w fun e w' => e = .returned (.bool (entsOk 1 l)) ∧ Up w w' := by
  have H := Lib.hid h; clear h
  go_enter Try.func14, Try.ntmps14
  go_wp2_with (go_at_call 35; refine (entriesValid_any l _ _ _ H.out).mono ?_; rintro e w' ⟨rfl, z, rfl⟩)
  go_ret
  exact ⟨rfl, z, rfl⟩
set_option maxHeartbeats 1000000 in
theorem valuesOf_any (least : Int) (l : List Ent) (v : Value) (w : World) (h : SL (RF Ent.enc) 2 w v l) (hok : entsOk least l = true) :
    Calls Try.prog 76 #[v] w fun e w' => e = .returned (.agg (vA (valsOf l))) ∧ Up w w' := by
  obtain ⟨a, cap, rfl, hlen, hc⟩ := h.open
  clear h
  have Hok := Lib.hid hok; clear hok
  go_enter Try.func76, Try.ntmps76
  go_wp2_with fail
  go_loopw [5, 8] (fun _ s8 wr => ∃ k : Nat, s8 = .int .i64 k ∧ k ≤ l.length ∧ Up w wr ∧ Row 71 wr w.heap.size zeros ∧ Row 71 wr (w.heap.size + 1) (vsets zeros (l.take k))) (fun _ s8 _ => l.length - (intOf s8).toNat)
  case atStart => exact ⟨0, rfl, Nat.zero_le _, (.of (by repeat (first | exact Ext.refl _ | refine Ext.up ?_ _ | refine Ext.alloc ?_ _ | refine Ext.drew ?_ | refine Ext.setRow ?_ (by first | (dsimp only; omega) | exact LeS.le | exact LeS.add _ | (simp; done) | (simp; omega)) _ | refine Ext.setCell ?_ (by first | (dsimp only; omega) | exact LeS.le | exact LeS.add _ | (simp; done) | (simp; omega)) _))), Row.of_eq (heap_alloc2_old _ _ _) vA_zeros.symm, Row.of_eq (heap_alloc2_new _ _ _) vA_zeros.symm⟩
  case round =>
    obtain ⟨k, rfl, hk, ⟨z, rfl⟩, r0, r1⟩ := hrel
    by_cases hlt : k < l.length
    · obtain ⟨x, hxk⟩ := getElem?_some_of_lt hlt
      obtain ⟨b, off, rfl, hb, hcc⟩ := hc k x hxk
      have c0 : w.cell? ⟨b, off + k * 2, none⟩ = some (.int .i64 x.k) := hcc 0 _ rfl
      have c1 : w.cell? ⟨b, off + k * 2 + 1, none⟩ = some (.int .i64 x.v) := hcc 1 _ rfl
      obtain ⟨k0, k1, _, _⟩ := entsOk_at Hok.out hxk
      obtain ⟨y, hy⟩ := getElem?_some_of_lt (l := vsets zeros (l.take k)) (k := x.k.toNat) (by rw [vsets_length, zeros_length]; omega)
      have d0 := r1.cell hy
      have f0 := r1.frozen x.k.toNat
      have hL := r1.lts
      have R0 := Lib.hid r0; have R1 := Lib.hid r1
      have Hs := Lib.hid (vsets_snoc zeros hxk)
      clear hc hcc hxk hy r0 r1
      go_wp2_with fail
      go_roundw
      case rel => exact ⟨k + 1, by go_num, by omega, (.of (by repeat (first | exact Ext.refl _ | refine Ext.up ?_ _ | refine Ext.alloc ?_ _ | refine Ext.drew ?_ | refine Ext.setRow ?_ (by first | (dsimp only; omega) | exact LeS.le | exact LeS.add _ | (simp; done) | (simp; omega)) _ | refine Ext.setCell ?_ (by first | (dsimp only; omega) | exact LeS.le | exact LeS.add _ | (simp; done) | (simp; omega)) _))), (R0.out.alloc _).other _ (by simp), by rw [Hs.out]; exact (R1.out.alloc _).set _ _⟩
      case measure => simp [intOf]; omega
    · obtain rfl : k = l.length := by omega
      rw [List.take_length] at r1
      have R1 := Lib.hid r1; have R0 := Lib.hid r0
      clear r1 r0
      go_wp2_with (first | (refine wpList_load_row rfl _ _ rfl _ rfl _ _ _ _ R1.out.eq Try.underlying71 rfl (by rw [vA_size, vsets_length, zeros_length]; exact Try.sVals) ?_) | (refine wpList_store_row rfl _ _ _ rfl _ _ rfl rfl _ _ R0.out.eq (by rw [vA_size, vsets_length, zeros_length]; exact Try.sVals) (by rw [vA_size, vA_size, vsets_length]) (vA_one _) ?_))
      refine bodyPost_ret (results_cell_row (p := 2) (by kernel_rfl) _ _ w.heap.size _ (vA (valsOf l)) (0, 0) _ rfl (R0.out.setRow _).eq Try.underlying71 rfl (by rw [vA_size, valsOf_length]; exact Try.sVals)) rfl ⟨rfl, (.of (by repeat (first | exact Ext.refl _ | refine Ext.up ?_ _ | refine Ext.alloc ?_ _ | refine Ext.drew ?_ | refine Ext.setRow ?_ (by first | (dsimp only; omega) | exact LeS.le | exact LeS.add _ | (simp; done) | (simp; omega)) _ | refine Ext.setCell ?_ (by first | (dsimp only; omega) | exact LeS.le | exact LeS.add _ | (simp; done) | (simp; omega)) _)))⟩
end Go.Proofs.Ytnknamddonjnjaa
