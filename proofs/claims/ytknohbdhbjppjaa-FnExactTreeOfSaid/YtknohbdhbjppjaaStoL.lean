/- Plain laws: stores of entries, the values of all keys, versions that are read, sums. -/
import Derived.Test.YtknohbdhbjppjaaData
namespace Go.Proofs.Ytknohbdhbjppjaa
open Go Go.RowKit

/-! ### Entries -/
def entAt (least : Int) (l : List Ent) (i : Nat) : Bool := match l[i]? with
  | none => true
  | some x => (inR x.k 0 31 && inR x.v least 1000000) && (decide (i = 0) || match l[i - 1]? with | none => true | some y => decide (y.k < x.k))
theorem entAt_first {least : Int} {l : List Ent} {i : Nat} {x : Ent} (h : l[i]? = some x) (hi : ¬ 0 < i) : entAt least l i = (inR x.k 0 31 && inR x.v least 1000000) := by
  obtain rfl : i = 0 := by omega
  simp [entAt, h]
theorem entAt_next {least : Int} {l : List Ent} {i : Nat} {x y : Ent} (h : l[i]? = some x) (hi : 0 < i) (hy : l[i - 1]? = some y) : entAt least l i = ((inR x.k 0 31 && inR x.v least 1000000) && decide (y.k < x.k)) := by
  have : i ≠ 0 := by omega
  simp [entAt, h, hy, this]
def entsOk (least : Int) (l : List Ent) : Bool := upTo (entAt least l) l.length
theorem entAt_in {least : Int} {l : List Ent} {i : Nat} {x : Ent} (h : l[i]? = some x) (hf : entAt least l i = true) : 0 ≤ x.k ∧ x.k ≤ 31 ∧ least ≤ x.v ∧ x.v ≤ 1000000 := by
  simp only [entAt, h, Bool.and_eq_true, inR_iff] at hf
  exact ⟨hf.1.1.1, hf.1.1.2, hf.1.2.1, hf.1.2.2⟩
theorem entAt_lt {least : Int} {l : List Ent} {i : Nat} {x y : Ent} (h : l[i + 1]? = some x) (hy : l[i]? = some y) (hf : entAt least l (i + 1) = true) : y.k < x.k := by
  rw [entAt_next h (by omega) (by simpa using hy)] at hf
  simp at hf; exact hf.2
theorem entsOk_at {least : Int} {l : List Ent} (h : entsOk least l = true) {i : Nat} {x : Ent} (hx : l[i]? = some x) : 0 ≤ x.k ∧ x.k ≤ 31 ∧ least ≤ x.v ∧ x.v ≤ 1000000 :=
  entAt_in hx (upTo_iff.1 h i (List.getElem?_eq_some_iff.1 hx).1)
theorem entsOk_mem {least : Int} {l : List Ent} (h : entsOk least l = true) {x : Ent} (hx : x ∈ l) : 0 ≤ x.k ∧ x.k ≤ 31 ∧ least ≤ x.v ∧ x.v ≤ 1000000 := by
  obtain ⟨i, hi⟩ := List.getElem?_of_mem hx
  exact entsOk_at h hi
theorem upTo_mono {f : Nat → Bool} {k n : Nat} (h : upTo f n = true) (hk : k ≤ n) : upTo f k = true := upTo_iff.2 fun i hi => upTo_iff.1 h i (by omega)
theorem asc_of {least : Int} {l : List Ent} (h : entsOk least l = true) : l.Pairwise fun a b => a.k < b.k := by
  have key : ∀ n (i : Nat) x y, l[i]? = some x → l[i + (n + 1)]? = some y → x.k < y.k := by
    intro n
    induction n with
    | zero => intro i x y hx hy; exact entAt_lt hy hx (upTo_iff.1 h _ (List.getElem?_eq_some_iff.1 hy).1)
    | succ n ih =>
      intro i x y hx hy
      have hlt := (List.getElem?_eq_some_iff.1 hy).1
      obtain ⟨z, hz⟩ := getElem?_some_of_lt (show i + (n + 1) < l.length by omega)
      have h1 := ih i x z hx hz
      have h2 := entAt_lt (y := z) hy hz (upTo_iff.1 h _ hlt)
      omega
  rw [List.pairwise_iff_getElem]
  intro i j hi hj hij
  have := key (j - i - 1) i l[i] l[j] (by simp) (by rw [show i + (j - i - 1 + 1) = j from by omega]; simp)
  exact this
theorem asc_len_aux : ∀ (l : List Ent) (lo : Int), l.Pairwise (fun a b => a.k < b.k) → (∀ x ∈ l, lo ≤ x.k ∧ x.k ≤ 31) → (l.length : Int) ≤ max 0 (32 - lo)
  | [], lo, _, _ => by simp; omega
  | a :: l, lo, h, hin => by
    rw [List.pairwise_cons] at h
    have ha := hin a (by simp)
    have := asc_len_aux l (a.k + 1) h.2 (fun x hx => ⟨by have := h.1 x hx; omega, (hin x (by simp [hx])).2⟩)
    simp only [List.length_cons]; omega
theorem entsOk_len {least : Int} {l : List Ent} (h : entsOk least l = true) : l.length ≤ 32 := by
  have := asc_len_aux l 0 (asc_of h) (fun x hx => by have := entsOk_mem h hx; omega)
  omega
theorem entsOk_least {a b : Int} (hab : b ≤ a) {l : List Ent} (h : entsOk a l = true) : entsOk b l = true := by
  refine upTo_iff.2 fun i hi => ?_
  have := upTo_iff.1 h i hi
  unfold entAt at *
  split at this
  · rfl
  · rename_i x h1
    simp only [Bool.and_eq_true, inR_iff] at this ⊢
    exact ⟨⟨this.1.1, by omega, this.1.2.2⟩, this.2⟩

/-! ### The values of all keys -/
def atK (l : List Ent) (key : Int) : Int := match l.find? (fun e => e.k == key) with | some e => e.v | none => 0
def vset (v : List Int) (e : Ent) : List Int := v.set e.k.toNat e.v
def vsets (v : List Int) (l : List Ent) : List Int := l.foldl vset v
def zeros : List Int := List.replicate 32 0
def valsOf (l : List Ent) : List Int := vsets zeros l
theorem vset_length (v : List Int) (e : Ent) : (vset v e).length = v.length := by simp [vset]
theorem vsets_length (l : List Ent) : ∀ v : List Int, (vsets v l).length = v.length := by
  induction l with
  | nil => intro v; rfl
  | cons e l ih => intro v; exact (ih _).trans (vset_length v e)
theorem vsets_snoc (v : List Int) {l : List Ent} {k : Nat} {x : Ent} (h : l[k]? = some x) : vsets v (l.take (k + 1)) = vset (vsets v (l.take k)) x := by
  rw [List.take_add_one, h]; simp [vsets]
theorem zeros_length : zeros.length = 32 := rfl
theorem zeros_get {n : Nat} (h : n < 32) : zeros[n]? = some 0 := by unfold zeros; rw [List.getElem?_replicate, if_pos h]
theorem valsOf_length (l : List Ent) : (valsOf l).length = 32 := (vsets_length l zeros).trans zeros_length
theorem vset_get {v : List Int} {e : Ent} {n : Nat} (h0 : 0 ≤ e.k) (hn : n < v.length) : (vset v e)[n]? = if e.k = (n : Int) then some e.v else v[n]? := by
  unfold vset
  by_cases h : e.k = n
  · rw [if_pos h, show e.k.toNat = n from by omega, List.getElem?_set_self hn]
  · rw [if_neg h, List.getElem?_set_ne (by omega)]
theorem vsets_get : ∀ (l : List Ent) (v : List Int) (n : Nat), l.Pairwise (fun a b => a.k < b.k) → (∀ x ∈ l, 0 ≤ x.k) → n < v.length →
    (vsets v l)[n]? = match l.find? (fun e => e.k == (n : Int)) with | some e => some e.v | none => v[n]?
  | [], v, n, _, _, _ => by simp [vsets]
  | a :: l, v, n, h, h0, hn => by
    rw [List.pairwise_cons] at h
    have ha := h0 a (by simp)
    have ih := vsets_get l (vset v a) n h.2 (fun x hx => h0 x (by simp [hx])) (by rw [vset_length]; exact hn)
    show (vsets (vset v a) l)[n]? = _
    rw [ih, List.find?_cons]
    by_cases hk : a.k = n
    · have hnone : l.find? (fun e => e.k == (n : Int)) = none := by
        rw [List.find?_eq_none]; intro x hx; have := h.1 x hx; simp; omega
      simp only [hnone, vset_get ha hn, hk, beq_self_eq_true, if_true]
    · have : (a.k == (n : Int)) = false := by simpa using hk
      simp only [this, vset_get ha hn, if_neg hk]
theorem valsOf_get {least : Int} {l : List Ent} (h : entsOk least l = true) {n : Nat} (hn : n < 32) : (valsOf l)[n]? = some (atK l n) := by
  unfold valsOf atK
  rw [vsets_get l zeros n (asc_of h) (fun x hx => (entsOk_mem h hx).1) (by rw [zeros_length]; exact hn)]
  cases l.find? (fun e => e.k == (n : Int)) with
  | some e => rfl
  | none => exact zeros_get hn
theorem atK_in {least : Int} {l : List Ent} (h : entsOk least l = true) (h0 : 0 ≤ least) (key : Int) : 0 ≤ atK l key ∧ atK l key ≤ 1000000 := by
  unfold atK
  split
  · rename_i e he
    have := entsOk_mem h (List.mem_of_find?_eq_some he)
    omega
  · omega
/-- The search of a key, entry by entry. -/
def noK (l : List Ent) (key : Int) (k : Nat) : Bool := upTo (fun i => match l[i]? with | none => true | some x => decide (x.k ≠ key)) k
theorem atK_found {l : List Ent} {key : Int} {k : Nat} {x : Ent} (hn : noK l key k = true) (hx : l[k]? = some x) (hk : x.k = key) : atK l key = x.v := by
  have hs : l.take k ++ x :: l.drop (k + 1) = l := by
    have hlt := (List.getElem?_eq_some_iff.1 hx)
    obtain ⟨h1, h2⟩ := hlt
    rw [← h2, ← List.drop_eq_getElem_cons h1, List.take_append_drop]
  have hnone : (l.take k).find? (fun e => e.k == key) = none := by
    rw [List.find?_eq_none]
    intro y hy
    obtain ⟨i, hi⟩ := List.getElem?_of_mem hy
    have hik : i < k := by
      have := (List.getElem?_eq_some_iff.1 hi).1
      simp at this; omega
    rw [List.getElem?_take_of_lt hik] at hi
    have := upTo_iff.1 hn i hik
    simp only [hi] at this
    simpa using this
  unfold atK
  rw [← hs, List.find?_append, hnone, Option.none_or, List.find?_cons, hk]
  simp
theorem atK_none {l : List Ent} {key : Int} (hn : noK l key l.length = true) : atK l key = 0 := by
  have hnone : l.find? (fun e => e.k == key) = none := by
    rw [List.find?_eq_none]
    intro y hy
    obtain ⟨i, hi⟩ := List.getElem?_of_mem hy
    have := upTo_iff.1 hn i (List.getElem?_eq_some_iff.1 hi).1
    simp only [hi] at this
    simpa using this
  unfold atK; rw [hnone]
theorem noK_next {l : List Ent} {key : Int} {k : Nat} {x : Ent} (hn : noK l key k = true) (hx : l[k]? = some x) (hk : x.k ≠ key) : noK l key (k + 1) = true :=
  upTo_succ hn (by simp only [hx]; simpa using hk)

/-! ### Values as a store -/
def stTo (v : List Int) : Nat → List Ent
  | 0 => []
  | k + 1 => stTo v k ++ if 0 < v.getD k 0 then [⟨(k : Int), v.getD k 0⟩] else []
def storeOf (v : List Int) : List Ent := stTo v 32
theorem stTo_len (v : List Int) : ∀ k, (stTo v k).length ≤ k
  | 0 => Nat.le_refl _
  | k + 1 => by have := stTo_len v k; unfold stTo; split <;> simp <;> omega
theorem stTo_yes {v : List Int} {k : Nat} {x : Int} (hx : v[k]? = some x) (h : 0 < x) : stTo v (k + 1) = stTo v k ++ [⟨(k : Int), x⟩] := by
  have : v.getD k 0 = x := by simp [List.getD, hx]
  rw [stTo, this, if_pos h]
theorem stTo_no {v : List Int} {k : Nat} {x : Int} (hx : v[k]? = some x) (h : ¬ 0 < x) : stTo v (k + 1) = stTo v k := by
  have : v.getD k 0 = x := by simp [List.getD, hx]
  rw [stTo, this, if_neg h, List.append_nil]

/-! ### Versions that are read -/
def rdStep (key by_ : Int) (p : Int × Int) (x : Ver) : Int × Int := if x.k = key ∧ x.b < by_ then (x.v, x.b) else p
def readV (base : Int) (l : List Ver) (key by_ : Int) : Int × Int := l.foldl (rdStep key by_) (base, -1)
theorem readV_snoc (base : Int) {l : List Ver} (key by_ : Int) {k : Nat} {x : Ver} (h : l[k]? = some x) : readV base (l.take (k + 1)) key by_ = rdStep key by_ (readV base (l.take k) key by_) x := by
  rw [List.take_add_one, h]; simp [readV]
theorem rdStep_yes {key by_ : Int} {p : Int × Int} {x : Ver} (h : x.k = key) (h' : x.b < by_) : rdStep key by_ p x = (x.v, x.b) := if_pos ⟨h, h'⟩
theorem rdStep_no1 {key by_ : Int} {p : Int × Int} {x : Ver} (h : x.k ≠ key) : rdStep key by_ p x = p := if_neg fun a => h a.1
theorem rdStep_no2 {key by_ : Int} {p : Int × Int} {x : Ver} (h : ¬ x.b < by_) : rdStep key by_ p x = p := if_neg fun a => h a.2

/-! ### Sums -/
def sumStep (s n : Int) : Int := (31 * s + n + 7) % 1000003
def sumL (s : Int) (l : List Int) : Int := l.foldl sumStep s
def summed (l : List Int) : Bool := l.all fun n => inR n 0 2000000
def sumOf (tag : Int) (l : List Int) : Int := if (inR tag 0 9 && summed l) = true then sumL (17 + tag) l else -1
theorem sumStep_in {s n : Int} : 0 ≤ sumStep s n ∧ sumStep s n < 1000003 := by unfold sumStep; omega
theorem sumL_snoc (s : Int) {l : List Int} {k : Nat} {x : Int} (h : l[k]? = some x) : sumL s (l.take (k + 1)) = sumStep (sumL s (l.take k)) x := by
  rw [List.take_add_one, h]; simp [sumL]
theorem sumL_in {s : Int} (h0 : 0 ≤ s) (h1 : s < 1000003) : ∀ l : List Int, 0 ≤ sumL s l ∧ sumL s l < 1000003 := by
  intro l
  induction l generalizing s with
  | nil => exact ⟨h0, h1⟩
  | cons n l ih => exact ih (s := sumStep s n) sumStep_in.1 sumStep_in.2
theorem szOf_eq {n : Int} {len : Nat} (h : ¬ szOf n len < 0) : szOf n len = n - len := by unfold szOf at *; split at h <;> first | omega | (rw [if_neg (by assumption)])
theorem storeOf_le (v : List Int) : (storeOf v).length ≤ 32 := stTo_len v 32
/-- The values that remain. -/
def lastV (s : List Ent) (l : List Ver) : List Int := (List.range 32).map fun key : Nat => (readV (atK s key) l key 10).1
theorem lastV_length (s : List Ent) (l : List Ver) : (lastV s l).length = 32 := by simp [lastV]
theorem lastV_get (s : List Ent) (l : List Ver) {k : Nat} (h : k < 32) : (lastV s l)[k]? = some (readV (atK s k) l k 10).1 := by simp [lastV, h]
def mixV (a b : List Int) (k : Nat) : List Int := a.take k ++ b.drop k
theorem mixV_zero (a b : List Int) : mixV a b 0 = b := by simp [mixV]
theorem mixV_all {a b : List Int} (h : a.length = b.length) : mixV a b b.length = a := by simp [mixV, ← h]
theorem mixV_length {a b : List Int} (h : a.length = b.length) {k : Nat} (hk : k ≤ b.length) : (mixV a b k).length = b.length := by simp [mixV]; omega
theorem mixV_next {a b : List Int} {k : Nat} {x : Int} (h : a.length = b.length) (hx : a[k]? = some x) : (mixV a b k).set k x = mixV a b (k + 1) := by
  have hk : k < a.length := (List.getElem?_eq_some_iff.1 hx).1
  apply List.ext_getElem?
  intro i
  unfold mixV
  by_cases hi : i = k
  · subst hi
    rw [List.getElem?_set_self (by simp; omega), List.getElem?_append_left (by simp; omega), List.getElem?_take_of_lt (by omega), hx]
  · rw [List.getElem?_set_ne (by omega)]
    by_cases h1 : i < k
    · rw [List.getElem?_append_left (by simp; omega), List.getElem?_append_left (by simp; omega), List.getElem?_take_of_lt h1, List.getElem?_take_of_lt (by omega)]
    · rw [List.getElem?_append_right (by simp; omega), List.getElem?_append_right (by simp; omega), List.getElem?_drop, List.getElem?_drop]
      congr 1
      simp; omega
end Go.Proofs.Ytknohbdhbjppjaa
