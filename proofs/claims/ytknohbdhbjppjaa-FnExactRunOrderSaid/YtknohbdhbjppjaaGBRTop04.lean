/- Plain laws: stores of entries, the values of all keys, versions that are read, sums. Plain laws: a store with another value; values back to a store; effects. Plain ground: append of one element just built. Plain laws: sums of blocks. -/
import Derived.Test.YtknohbdhbjppjaaGBRTop00
import Derived.Test.YtknohbdhbjppjaaGBRTop03
import Derived.Deep.AppendLies
set_option linter.unusedSimpArgs false
set_option linter.unusedVariables false
namespace Go.Proofs.Ytknohbdhbjppjaa
open Go Go.RowKit

/-! ### Entries -/
def entAt (least : Int) (l : List Ent) (i : Nat) : Bool := match l[i]? with
  | none => true
  | some x => (inR x.k 0 31 && inR x.v least 1000000) && (decide (i = 0) || match l[i - 1]? with | none => true | some y => decide (y.k < x.k))
theorem entAt_first {least : Int} {l : List Ent} {i : Nat} {x : Ent} (h : l[i]? = some x) (hi : ¬ 0 < i) : entAt least l i = (inR x.k 0 31 && inR x.v least 1000000) := by
  obtain rfl : i = 0 := by omega
  simp [entAt, h]
theorem entAt_next {least : Int} {l : List Ent} {i : Nat} {x y : Ent} (h : l[i]? = some x) (hi : 0 < i) (hy : l[i - 1]? = some y) : entAt least l i = ((inR x.k 0 31 && inR x.v least 1000000) && decide (y.k < x.k)) := by
  have : i ≠ 0 := by omega
  simp [entAt, h, hy, this]
def entsOk (least : Int) (l : List Ent) : Bool := upTo (entAt least l) l.length
theorem entAt_in {least : Int} {l : List Ent} {i : Nat} {x : Ent} (h : l[i]? = some x) (hf : entAt least l i = true) : 0 ≤ x.k ∧ x.k ≤ 31 ∧ least ≤ x.v ∧ x.v ≤ 1000000 := by
  simp only [entAt, h, Bool.and_eq_true, inR_iff] at hf
  exact ⟨hf.1.1.1, hf.1.1.2, hf.1.2.1, hf.1.2.2⟩
theorem entAt_lt {least : Int} {l : List Ent} {i : Nat} {x y : Ent} (h : l[i + 1]? = some x) (hy : l[i]? = some y) (hf : entAt least l (i + 1) = true) : y.k < x.k := by
  rw [entAt_next h (by omega) (by simpa using hy)] at hf
  simp at hf; exact hf.2
theorem entsOk_at {least : Int} {l : List Ent} (h : entsOk least l = true) {i : Nat} {x : Ent} (hx : l[i]? = some x) : 0 ≤ x.k ∧ x.k ≤ 31 ∧ least ≤ x.v ∧ x.v ≤ 1000000 :=
  entAt_in hx (upTo_iff.1 h i (List.getElem?_eq_some_iff.1 hx).1)
theorem entsOk_mem {least : Int} {l : List Ent} (h : entsOk least l = true) {x : Ent} (hx : x ∈ l) : 0 ≤ x.k ∧ x.k ≤ 31 ∧ least ≤ x.v ∧ x.v ≤ 1000000 := by
  obtain ⟨i, hi⟩ := List.getElem?_of_mem hx
  exact entsOk_at h hi
theorem upTo_mono {f : Nat → Bool} {k n : Nat} (h : upTo f n = true) (hk : k ≤ n) : upTo f k = true := upTo_iff.2 fun i hi => upTo_iff.1 h i (by omega)
theorem asc_of {least : Int} {l : List Ent} (h : entsOk least l = true) : l.Pairwise fun a b => a.k < b.k := by
  have key : ∀ n (i : Nat) x y, l[i]? = some x → l[i + (n + 1)]? = some y → x.k < y.k := by
    intro n
    induction n with
    | zero => intro i x y hx hy; exact entAt_lt hy hx (upTo_iff.1 h _ (List.getElem?_eq_some_iff.1 hy).1)
    | succ n ih =>
      intro i x y hx hy
      have hlt := (List.getElem?_eq_some_iff.1 hy).1
      obtain ⟨z, hz⟩ := getElem?_some_of_lt (show i + (n + 1) < l.length by omega)
      have h1 := ih i x z hx hz
      have h2 := entAt_lt (y := z) hy hz (upTo_iff.1 h _ hlt)
      omega
  rw [List.pairwise_iff_getElem]
  intro i j hi hj hij
  have := key (j - i - 1) i l[i] l[j] (by simp) (by rw [show i + (j - i - 1 + 1) = j from by omega]; simp)
  exact this
theorem asc_len_aux : ∀ (l : List Ent) (lo : Int), l.Pairwise (fun a b => a.k < b.k) → (∀ x ∈ l, lo ≤ x.k ∧ x.k ≤ 31) → (l.length : Int) ≤ max 0 (32 - lo)
  | [], lo, _, _ => by simp; omega
  | a :: l, lo, h, hin => by
    rw [List.pairwise_cons] at h
    have ha := hin a (by simp)
    have := asc_len_aux l (a.k + 1) h.2 (fun x hx => ⟨by have := h.1 x hx; omega, (hin x (by simp [hx])).2⟩)
    simp only [List.length_cons]; omega
theorem entsOk_len {least : Int} {l : List Ent} (h : entsOk least l = true) : l.length ≤ 32 := by
  have := asc_len_aux l 0 (asc_of h) (fun x hx => by have := entsOk_mem h hx; omega)
  omega
theorem entsOk_least {a b : Int} (hab : b ≤ a) {l : List Ent} (h : entsOk a l = true) : entsOk b l = true := by
  refine upTo_iff.2 fun i hi => ?_
  have := upTo_iff.1 h i hi
  unfold entAt at *
  split at this
  · rfl
  · rename_i x h1
    simp only [Bool.and_eq_true, inR_iff] at this ⊢
    exact ⟨⟨this.1.1, by omega, this.1.2.2⟩, this.2⟩

/-! ### The values of all keys -/
def atK (l : List Ent) (key : Int) : Int := match l.find? (fun e => e.k == key) with | some e => e.v | none => 0
def vset (v : List Int) (e : Ent) : List Int := v.set e.k.toNat e.v
def vsets (v : List Int) (l : List Ent) : List Int := l.foldl vset v
def zeros : List Int := List.replicate 32 0
def valsOf (l : List Ent) : List Int := vsets zeros l
theorem vset_length (v : List Int) (e : Ent) : (vset v e).length = v.length := by simp [vset]
theorem vsets_length (l : List Ent) : ∀ v : List Int, (vsets v l).length = v.length := by
  induction l with
  | nil => intro v; rfl
  | cons e l ih => intro v; exact (ih _).trans (vset_length v e)
theorem vsets_snoc (v : List Int) {l : List Ent} {k : Nat} {x : Ent} (h : l[k]? = some x) : vsets v (l.take (k + 1)) = vset (vsets v (l.take k)) x := by
  rw [List.take_add_one, h]; simp [vsets]
theorem zeros_length : zeros.length = 32 := rfl
theorem zeros_get {n : Nat} (h : n < 32) : zeros[n]? = some 0 := by unfold zeros; rw [List.getElem?_replicate, if_pos h]
theorem valsOf_length (l : List Ent) : (valsOf l).length = 32 := (vsets_length l zeros).trans zeros_length
theorem vset_get {v : List Int} {e : Ent} {n : Nat} (h0 : 0 ≤ e.k) (hn : n < v.length) : (vset v e)[n]? = if e.k = (n : Int) then some e.v else v[n]? := by
  unfold vset
  by_cases h : e.k = n
  · rw [if_pos h, show e.k.toNat = n from by omega, List.getElem?_set_self hn]
  · rw [if_neg h, List.getElem?_set_ne (by omega)]
theorem vsets_get : ∀ (l : List Ent) (v : List Int) (n : Nat), l.Pairwise (fun a b => a.k < b.k) → (∀ x ∈ l, 0 ≤ x.k) → n < v.length →
    (vsets v l)[n]? = match l.find? (fun e => e.k == (n : Int)) with | some e => some e.v | none => v[n]?
  | [], v, n, _, _, _ => by simp [vsets]
  | a :: l, v, n, h, h0, hn => by
    rw [List.pairwise_cons] at h
    have ha := h0 a (by simp)
    have ih := vsets_get l (vset v a) n h.2 (fun x hx => h0 x (by simp [hx])) (by rw [vset_length]; exact hn)
    show (vsets (vset v a) l)[n]? = _
    rw [ih, List.find?_cons]
    by_cases hk : a.k = n
    · have hnone : l.find? (fun e => e.k == (n : Int)) = none := by
        rw [List.find?_eq_none]; intro x hx; have := h.1 x hx; simp; omega
      simp only [hnone, vset_get ha hn, hk, beq_self_eq_true, if_true]
    · have : (a.k == (n : Int)) = false := by simpa using hk
      simp only [this, vset_get ha hn, if_neg hk]
theorem valsOf_get {least : Int} {l : List Ent} (h : entsOk least l = true) {n : Nat} (hn : n < 32) : (valsOf l)[n]? = some (atK l n) := by
  unfold valsOf atK
  rw [vsets_get l zeros n (asc_of h) (fun x hx => (entsOk_mem h hx).1) (by rw [zeros_length]; exact hn)]
  cases l.find? (fun e => e.k == (n : Int)) with
  | some e => rfl
  | none => exact zeros_get hn
theorem atK_in {least : Int} {l : List Ent} (h : entsOk least l = true) (h0 : 0 ≤ least) (key : Int) : 0 ≤ atK l key ∧ atK l key ≤ 1000000 := by
  unfold atK
  split
  · rename_i e he
    have := entsOk_mem h (List.mem_of_find?_eq_some he)
    omega
  · omega
/-- The search of a key, entry by entry. -/
def noK (l : List Ent) (key : Int) (k : Nat) : Bool := upTo (fun i => match l[i]? with | none => true | some x => decide (x.k ≠ key)) k
theorem atK_found {l : List Ent} {key : Int} {k : Nat} {x : Ent} (hn : noK l key k = true) (hx : l[k]? = some x) (hk : x.k = key) : atK l key = x.v := by
  have hs : l.take k ++ x :: l.drop (k + 1) = l := by
    have hlt := (List.getElem?_eq_some_iff.1 hx)
    obtain ⟨h1, h2⟩ := hlt
    rw [← h2, ← List.drop_eq_getElem_cons h1, List.take_append_drop]
  have hnone : (l.take k).find? (fun e => e.k == key) = none := by
    rw [List.find?_eq_none]
    intro y hy
    obtain ⟨i, hi⟩ := List.getElem?_of_mem hy
    have hik : i < k := by
      have := (List.getElem?_eq_some_iff.1 hi).1
      simp at this; omega
    rw [List.getElem?_take_of_lt hik] at hi
    have := upTo_iff.1 hn i hik
    simp only [hi] at this
    simpa using this
  unfold atK
  rw [← hs, List.find?_append, hnone, Option.none_or, List.find?_cons, hk]
  simp
theorem atK_none {l : List Ent} {key : Int} (hn : noK l key l.length = true) : atK l key = 0 := by
  have hnone : l.find? (fun e => e.k == key) = none := by
    rw [List.find?_eq_none]
    intro y hy
    obtain ⟨i, hi⟩ := List.getElem?_of_mem hy
    have := upTo_iff.1 hn i (List.getElem?_eq_some_iff.1 hi).1
    simp only [hi] at this
    simpa using this
  unfold atK; rw [hnone]
theorem noK_next {l : List Ent} {key : Int} {k : Nat} {x : Ent} (hn : noK l key k = true) (hx : l[k]? = some x) (hk : x.k ≠ key) : noK l key (k + 1) = true :=
  upTo_succ hn (by simp only [hx]; simpa using hk)

/-! ### Values as a store -/
def stTo (v : List Int) : Nat → List Ent
  | 0 => []
  | k + 1 => stTo v k ++ if 0 < v.getD k 0 then [⟨(k : Int), v.getD k 0⟩] else []
def storeOf (v : List Int) : List Ent := stTo v 32
theorem stTo_len (v : List Int) : ∀ k, (stTo v k).length ≤ k
  | 0 => Nat.le_refl _
  | k + 1 => by have := stTo_len v k; unfold stTo; split <;> simp <;> omega
theorem stTo_yes {v : List Int} {k : Nat} {x : Int} (hx : v[k]? = some x) (h : 0 < x) : stTo v (k + 1) = stTo v k ++ [⟨(k : Int), x⟩] := by
  have : v.getD k 0 = x := by simp [List.getD, hx]
  rw [stTo, this, if_pos h]
theorem stTo_no {v : List Int} {k : Nat} {x : Int} (hx : v[k]? = some x) (h : ¬ 0 < x) : stTo v (k + 1) = stTo v k := by
  have : v.getD k 0 = x := by simp [List.getD, hx]
  rw [stTo, this, if_neg h, List.append_nil]

/-! ### Versions that are read -/
def rdStep (key by_ : Int) (p : Int × Int) (x : Ver) : Int × Int := if x.k = key ∧ x.b < by_ then (x.v, x.b) else p
def readV (base : Int) (l : List Ver) (key by_ : Int) : Int × Int := l.foldl (rdStep key by_) (base, -1)
theorem readV_snoc (base : Int) {l : List Ver} (key by_ : Int) {k : Nat} {x : Ver} (h : l[k]? = some x) : readV base (l.take (k + 1)) key by_ = rdStep key by_ (readV base (l.take k) key by_) x := by
  rw [List.take_add_one, h]; simp [readV]
theorem rdStep_yes {key by_ : Int} {p : Int × Int} {x : Ver} (h : x.k = key) (h' : x.b < by_) : rdStep key by_ p x = (x.v, x.b) := if_pos ⟨h, h'⟩
theorem rdStep_no1 {key by_ : Int} {p : Int × Int} {x : Ver} (h : x.k ≠ key) : rdStep key by_ p x = p := if_neg fun a => h a.1
theorem rdStep_no2 {key by_ : Int} {p : Int × Int} {x : Ver} (h : ¬ x.b < by_) : rdStep key by_ p x = p := if_neg fun a => h a.2

/-! ### Sums -/
def sumStep (s n : Int) : Int := (31 * s + n + 7) % 1000003
def sumL (s : Int) (l : List Int) : Int := l.foldl sumStep s
def summed (l : List Int) : Bool := l.all fun n => inR n 0 2000000
def sumOf (tag : Int) (l : List Int) : Int := if (inR tag 0 9 && summed l) = true then sumL (17 + tag) l else -1
theorem sumStep_in {s n : Int} : 0 ≤ sumStep s n ∧ sumStep s n < 1000003 := by unfold sumStep; omega
theorem sumL_snoc (s : Int) {l : List Int} {k : Nat} {x : Int} (h : l[k]? = some x) : sumL s (l.take (k + 1)) = sumStep (sumL s (l.take k)) x := by
  rw [List.take_add_one, h]; simp [sumL]
theorem sumL_in {s : Int} (h0 : 0 ≤ s) (h1 : s < 1000003) : ∀ l : List Int, 0 ≤ sumL s l ∧ sumL s l < 1000003 := by
  intro l
  induction l generalizing s with
  | nil => exact ⟨h0, h1⟩
  | cons n l ih => exact ih (s := sumStep s n) sumStep_in.1 sumStep_in.2
theorem szOf_eq {n : Int} {len : Nat} (h : ¬ szOf n len < 0) : szOf n len = n - len := by unfold szOf at *; split at h <;> first | omega | (rw [if_neg (by assumption)])
theorem storeOf_le (v : List Int) : (storeOf v).length ≤ 32 := stTo_len v 32
/-- The values that remain. -/
def lastV (s : List Ent) (l : List Ver) : List Int := (List.range 32).map fun key : Nat => (readV (atK s key) l key 10).1
theorem lastV_length (s : List Ent) (l : List Ver) : (lastV s l).length = 32 := by simp [lastV]
theorem lastV_get (s : List Ent) (l : List Ver) {k : Nat} (h : k < 32) : (lastV s l)[k]? = some (readV (atK s k) l k 10).1 := by simp [lastV, h]
def mixV (a b : List Int) (k : Nat) : List Int := a.take k ++ b.drop k
theorem mixV_zero (a b : List Int) : mixV a b 0 = b := by simp [mixV]
theorem mixV_all {a b : List Int} (h : a.length = b.length) : mixV a b b.length = a := by simp [mixV, ← h]
theorem mixV_length {a b : List Int} (h : a.length = b.length) {k : Nat} (hk : k ≤ b.length) : (mixV a b k).length = b.length := by simp [mixV]; omega
theorem mixV_next {a b : List Int} {k : Nat} {x : Int} (h : a.length = b.length) (hx : a[k]? = some x) : (mixV a b k).set k x = mixV a b (k + 1) := by
  have hk : k < a.length := (List.getElem?_eq_some_iff.1 hx).1
  apply List.ext_getElem?
  intro i
  unfold mixV
  by_cases hi : i = k
  · subst hi
    rw [List.getElem?_set_self (by simp; omega), List.getElem?_append_left (by simp; omega), List.getElem?_take_of_lt (by omega), hx]
  · rw [List.getElem?_set_ne (by omega)]
    by_cases h1 : i < k
    · rw [List.getElem?_append_left (by simp; omega), List.getElem?_append_left (by simp; omega), List.getElem?_take_of_lt h1, List.getElem?_take_of_lt (by omega)]
    · rw [List.getElem?_append_right (by simp; omega), List.getElem?_append_right (by simp; omega), List.getElem?_drop, List.getElem?_drop]
      congr 1
      simp; omega
end Go.Proofs.Ytknohbdhbjppjaa
namespace Go.Proofs.Ytknohbdhbjppjaa
open Go Go.RowKit

/-! ### One value more -/
def putStep (key v : Int) (p : List Ent × Bool) (e : Ent) : List Ent × Bool :=
  (p.1 ++ (if (!p.2 && decide (key ≤ e.k)) = true then [⟨key, v⟩] else []) ++ (if e.k ≠ key then [e] else []), p.2 || decide (key ≤ e.k))
def putTo2 (p0 : Bool) (key v : Int) (l : List Ent) : List Ent × Bool := l.foldl (putStep key v) ([], p0)
def putF (p0 : Bool) (key v : Int) (l : List Ent) : List Ent := if (putTo2 p0 key v l).2 = true then (putTo2 p0 key v l).1 else (putTo2 p0 key v l).1 ++ [⟨key, v⟩]
theorem putTo2_snoc (p0 : Bool) (key v : Int) {l : List Ent} {k : Nat} {x : Ent} (h : l[k]? = some x) : putTo2 p0 key v (l.take (k + 1)) = putStep key v (putTo2 p0 key v (l.take k)) x := by
  rw [List.take_add_one, h]; simp [putTo2]
theorem putTo2_le (p0 : Bool) (key v : Int) (l : List Ent) : (putTo2 p0 key v l).1.length ≤ 2 * l.length := by
  have key' : ∀ (l : List Ent) (p : List Ent × Bool), (l.foldl (putStep key v) p).1.length ≤ p.1.length + 2 * l.length := by
    intro l
    induction l with
    | nil => intro p; simp
    | cons e l ih =>
      intro p
      have := ih (putStep key v p e)
      have h2 : (putStep key v p e).1.length ≤ p.1.length + 2 := by
        unfold putStep
        dsimp only
        rw [List.length_append, List.length_append]
        split <;> split <;> simp <;> omega
      simp only [List.foldl_cons, List.length_cons] at *; omega
  have := key' l ([], p0)
  simpa [putTo2] using this
theorem foldl_placed (key v : Int) : ∀ (l : List Ent) (acc : List Ent), l.foldl (putStep key v) (acc, true) = (acc ++ l.filter (fun e => decide (e.k ≠ key)), true)
  | [], acc => by simp
  | e :: l, acc => by
    rw [List.foldl_cons]
    by_cases h : e.k = key
    · have : putStep key v (acc, true) e = (acc, true) := by simp [putStep, h]
      rw [this, foldl_placed key v l acc]; simp [h]
    · have : putStep key v (acc, true) e = (acc ++ [e], true) := by simp [putStep, h]
      rw [this, foldl_placed key v l (acc ++ [e])]; simp [h]
/-- In a list of ascending keys. -/
def putS (key v : Int) (put : Bool) (l : List Ent) : List Ent := l.filter (fun e => decide (e.k < key)) ++ (if put = true then [⟨key, v⟩] else []) ++ l.filter (fun e => decide (key < e.k))
theorem filter_ne {key : Int} : ∀ {l : List Ent}, l.Pairwise (fun a b => a.k < b.k) → l.filter (fun e => decide (e.k ≠ key)) = l.filter (fun e => decide (e.k < key)) ++ l.filter (fun e => decide (key < e.k))
  | [], _ => rfl
  | e :: l, h => by
    rw [List.pairwise_cons] at h
    have ih := filter_ne (key := key) h.2
    by_cases h1 : e.k < key
    · have h2 : e.k ≠ key := by omega
      have h3 : ¬ key < e.k := by omega
      simp only [List.filter_cons, h1, h2, h3, decide_true, decide_false, if_true, ne_eq, not_false_eq_true, Bool.false_eq_true, if_false, List.cons_append, ih]
    · have hnone : l.filter (fun e => decide (e.k < key)) = [] := by
        rw [List.filter_eq_nil_iff]; intro x hx; have := h.1 x hx; simp; omega
      rw [hnone, List.nil_append] at ih
      by_cases h2 : e.k = key
      · have h3 : ¬ key < e.k := by omega
        simp only [List.filter_cons, h1, h2, h3, decide_true, decide_false, if_true, ne_eq, not_true_eq_false, Bool.false_eq_true, if_false, ih, hnone, List.nil_append]
        simp [h2]
      · have h3 : key < e.k := by omega
        simp only [List.filter_cons, h1, h2, h3, decide_true, decide_false, if_true, ne_eq, not_false_eq_true, Bool.false_eq_true, if_false, ih, hnone, List.nil_append]
theorem putF_asc {key v : Int} {l : List Ent} (h : l.Pairwise fun a b => a.k < b.k) (p0 : Bool) : putF p0 key v l = putS key v (!p0) l := by
  cases p0 with
  | true =>
    unfold putF putTo2
    rw [foldl_placed]
    simp only [if_true, List.nil_append, putS, Bool.not_true, Bool.false_eq_true, if_false, List.append_nil]
    exact filter_ne h
  | false =>
    have key' : ∀ (l acc : List Ent), l.Pairwise (fun a b => a.k < b.k) → (let r := l.foldl (putStep key v) (acc, false); if r.2 = true then r.1 else r.1 ++ [⟨key, v⟩]) = acc ++ putS key v true l := by
      intro l
      induction l with
      | nil => intro acc _; simp [putS]
      | cons e l ih =>
        intro acc h
        rw [List.pairwise_cons] at h
        by_cases h1 : e.k < key
        · have e1 : putStep key v (acc, false) e = (acc ++ [e], false) := by
            have h2 : ¬ key ≤ e.k := by omega
            have h3 : e.k ≠ key := by omega
            simp [putStep, h2, h3]
          have h3 : ¬ key < e.k := by omega
          have := ih (acc ++ [e]) h.2
          rw [List.foldl_cons, e1, this]
          simp [putS, h1, h3]
        · have hnone : l.filter (fun e => decide (e.k < key)) = [] := by
            rw [List.filter_eq_nil_iff]; intro x hx; have := h.1 x hx; simp; omega
          have hall : l.filter (fun e => decide (key < e.k)) = l := by
            rw [List.filter_eq_self]; intro x hx; have := h.1 x hx; simp; omega
          have hall' : l.filter (fun e => decide (e.k ≠ key)) = l := by
            rw [List.filter_eq_self]; intro x hx; have := h.1 x hx; simp; omega
          have e1 : putStep key v (acc, false) e = (acc ++ [⟨key, v⟩] ++ (if e.k ≠ key then [e] else []), true) := by
            have h2 : key ≤ e.k := by omega
            simp [putStep, h2]
          rw [List.foldl_cons, e1, foldl_placed, hall']
          by_cases h2 : e.k = key
          · have h3 : ¬ key < e.k := by omega
            simp only [putS, List.filter_cons, h1, h3, hnone, hall, if_true, decide_false, Bool.false_eq_true, if_false, List.nil_append, h2, ne_eq, not_true_eq_false, List.append_nil]
            simp
          · have h3 : key < e.k := by omega
            simp only [putS, List.filter_cons, h1, h3, hnone, hall, if_true, decide_false, decide_true, Bool.false_eq_true, if_false, List.nil_append, h2, ne_eq, not_false_eq_true]
            simp
    have h1 := key' l [] h
    rw [List.nil_append] at h1
    exact h1
/-! ### Lists of ascending keys by their values -/
theorem atK_append (a b : List Ent) (key : Int) : atK (a ++ b) key = match a.find? (fun e => e.k == key) with | some e => e.v | none => atK b key := by
  unfold atK
  rw [List.find?_append]
  cases a.find? (fun e => e.k == key) <;> rfl
theorem find_filter_ne {l : List Ent} {p : Ent → Bool} {key : Int} (h : ∀ e, e.k = key → p e = false) : (l.filter p).find? (fun e => e.k == key) = none := by
  rw [List.find?_eq_none]
  intro e he
  rw [List.mem_filter] at he
  simp only [beq_iff_eq]
  intro hk
  rw [h e hk] at he; exact absurd he.2 (by simp)
theorem find_filter_eq {l : List Ent} {p : Ent → Bool} {key : Int} (h : ∀ e, e.k = key → p e = true) : (l.filter p).find? (fun e => e.k == key) = l.find? (fun e => e.k == key) := by
  rw [List.find?_filter]
  congr 1
  funext e
  by_cases hk : e.k = key
  · simp [hk, h e hk]
  · simp [hk]
theorem atK_putS {key v : Int} {put : Bool} {l : List Ent} (hv : put = false → v = 0) (n : Int) : atK (putS key v put l) n = if n = key then v else atK l n := by
  unfold putS
  rw [atK_append, List.find?_append]
  by_cases h : n = key
  · subst h
    rw [find_filter_ne (fun e he => by simp; omega), Option.none_or, if_pos rfl]
    cases put with
    | true => simp
    | false =>
      simp only [Bool.false_eq_true, if_false, List.find?_nil]
      rw [hv rfl]
      unfold atK
      rw [find_filter_ne (fun e he => by simp; omega)]
  · rw [if_neg h]
    have hm : (if put = true then [(⟨key, v⟩ : Ent)] else []).find? (fun e => e.k == n) = none := by
      split
      · simp; omega
      · rfl
    rw [hm, Option.or_none]
    by_cases h1 : n < key
    · rw [find_filter_eq (fun e he => by simp; omega)]
      have : atK (l.filter fun e => decide (key < e.k)) n = 0 := by unfold atK; rw [find_filter_ne (fun e he => by simp; omega)]
      rw [this]
      unfold atK
      cases l.find? (fun e => e.k == n) <;> rfl
    · rw [find_filter_ne (fun e he => by simp; omega)]
      unfold atK
      simp only
      rw [find_filter_eq (fun e he => by simp; omega)]
theorem entsOk_of {least : Int} {l : List Ent} (hs : l.Pairwise fun a b => a.k < b.k) (hin : ∀ x ∈ l, 0 ≤ x.k ∧ x.k ≤ 31 ∧ least ≤ x.v ∧ x.v ≤ 1000000) : entsOk least l = true := by
  refine upTo_iff.2 fun i hi => ?_
  obtain ⟨x, hx⟩ := getElem?_some_of_lt hi
  have h1 := hin x (List.mem_of_getElem? hx)
  have h2 : (inR x.k 0 31 && inR x.v least 1000000) = true := by simp only [Bool.and_eq_true, inR_iff]; omega
  by_cases h0 : 0 < i
  · obtain ⟨y, hy⟩ := getElem?_some_of_lt (show i - 1 < l.length by omega)
    rw [entAt_next hx h0 hy, h2, Bool.true_and, decide_eq_true_eq]
    obtain ⟨hi1, hi2⟩ := List.getElem?_eq_some_iff.1 hx
    obtain ⟨hj1, hj2⟩ := List.getElem?_eq_some_iff.1 hy
    rw [List.pairwise_iff_getElem] at hs
    have := hs (i - 1) i hj1 hi1 (by omega)
    rw [hi2, hj2] at this; exact this
  · rw [entAt_first hx h0, h2]
theorem putS_ok {least : Int} {key v : Int} {put : Bool} {l : List Ent} (h : entsOk least l = true) (k0 : 0 ≤ key) (k1 : key ≤ 31) (hv : put = true → least ≤ v ∧ v ≤ 1000000) : entsOk least (putS key v put l) = true := by
  have hs := asc_of h
  refine entsOk_of ?_ fun x hx => ?_
  · unfold putS
    rw [List.pairwise_append, List.pairwise_append]
    refine ⟨⟨hs.filter _, ?_, fun a ha b hb => ?_⟩, hs.filter _, fun a ha b hb => ?_⟩
    · split <;> simp
    · have := (List.mem_filter.1 ha).2
      split at hb
      · simp at hb this; subst hb; exact this
      · simp at hb
    · have h2 := (List.mem_filter.1 hb).2
      simp at h2
      rcases List.mem_append.1 ha with ha | ha
      · have := (List.mem_filter.1 ha).2; simp at this; omega
      · split at ha
        · simp at ha; subst ha; exact h2
        · simp at ha
  · unfold putS at hx
    rcases List.mem_append.1 hx with hx | hx
    · rcases List.mem_append.1 hx with hx | hx
      · exact entsOk_mem h (List.mem_filter.1 hx).1
      · split at hx
        · rename_i hp
          simp at hx; subst hx
          have := hv hp
          exact ⟨k0, k1, this.1, this.2⟩
        · simp at hx
    · exact entsOk_mem h (List.mem_filter.1 hx).1
/-- Stores with the same values are the same. -/
theorem find_asc {l : List Ent} (hs : l.Pairwise fun a b => a.k < b.k) {x : Ent} (hx : x ∈ l) : l.find? (fun e => e.k == x.k) = some x := by
  induction l with
  | nil => cases hx
  | cons a l ih =>
    rw [List.pairwise_cons] at hs
    rw [List.find?_cons]
    rcases List.mem_cons.1 hx with rfl | hx
    · simp
    · have := hs.1 x hx
      have hne : (a.k == x.k) = false := by simp; omega
      simp only [hne]
      exact ih hs.2 hx
theorem sto_mem {a b : List Ent} (ha : entsOk 1 a = true) (hb : entsOk 1 b = true) (h : ∀ key : Int, 0 ≤ key → key ≤ 31 → atK a key = atK b key) {x : Ent} (hx : x ∈ a) : x ∈ b := by
  have hin := entsOk_mem ha hx
  have h1 := h x.k hin.1 hin.2.1
  have h2 : atK a x.k = x.v := by unfold atK; rw [find_asc (asc_of ha) hx]
  rw [h2] at h1
  unfold atK at h1
  split at h1
  · rename_i e he
    have hk := List.find?_some he
    simp at hk
    have hm := List.mem_of_find?_eq_some he
    obtain ⟨k1, v1⟩ := x; obtain ⟨k2, v2⟩ := e
    simp at hk h1; subst hk; subst h1; exact hm
  · omega
theorem ents_perm_eq {a b : List Ent} (ha : a.Pairwise fun x y => x.k < y.k) (hb : b.Pairwise fun x y => x.k < y.k) (h : ∀ x, x ∈ a ↔ x ∈ b) : a = b := by
  have na : a.Nodup := ha.imp fun {x y} hxy e => by subst e; omega
  have nb : b.Nodup := hb.imp fun {x y} hxy e => by subst e; omega
  have hp : a.Perm b := (List.perm_ext_iff_of_nodup na nb).2 h
  exact List.Perm.eq_of_pairwise (le := fun x y : Ent => x.k < y.k) (fun x y _ _ h1 h2 => by omega) ha hb hp
theorem sto_ext {a b : List Ent} (ha : entsOk 1 a = true) (hb : entsOk 1 b = true) (h : ∀ key : Int, 0 ≤ key → key ≤ 31 → atK a key = atK b key) : a = b :=
  ents_perm_eq (asc_of ha) (asc_of hb) fun _ => ⟨fun hx => sto_mem ha hb h hx, fun hx => sto_mem hb ha (fun k h0 h1 => (h k h0 h1).symm) hx⟩
/-! ### Values as a store, and back -/
def valsIn (v : List Int) : Prop := v.length = 32 ∧ ∀ x ∈ v, 0 ≤ x ∧ x ≤ 1000000
theorem stTo_mem {v : List Int} {x : Ent} : ∀ {k : Nat}, x ∈ stTo v k ↔ ∃ i : Nat, i < k ∧ 0 < v.getD i 0 ∧ x = ⟨(i : Int), v.getD i 0⟩
  | 0 => by simp [stTo]
  | k + 1 => by
    rw [stTo, List.mem_append, stTo_mem (k := k)]
    constructor
    · rintro (⟨i, h1, h2⟩ | h)
      · exact ⟨i, by omega, h2⟩
      · split at h
        · rename_i hp; simp at h; exact ⟨k, by omega, hp, h⟩
        · simp at h
    · rintro ⟨i, h1, h2, h3⟩
      by_cases hik : i = k
      · subst hik; right; rw [if_pos h2]; simpa using h3
      · left; exact ⟨i, by omega, h2, h3⟩
theorem stTo_asc (v : List Int) : ∀ k, (stTo v k).Pairwise fun a b => a.k < b.k
  | 0 => by simp [stTo]
  | k + 1 => by
    rw [stTo, List.pairwise_append]
    refine ⟨stTo_asc v k, by split <;> simp, fun a ha b hb => ?_⟩
    obtain ⟨i, h1, _, rfl⟩ := stTo_mem.1 ha
    split at hb
    · simp at hb; subst hb; show (i : Int) < (k : Int); omega
    · simp at hb
theorem valsIn_get {v : List Int} (h : valsIn v) (n : Nat) : 0 ≤ v.getD n 0 ∧ v.getD n 0 ≤ 1000000 := by
  by_cases hn : n < v.length
  · have e : v.getD n 0 = v[n] := by simp [List.getD, hn]
    rw [e]; exact h.2 _ (by simp)
  · have e : v.getD n 0 = 0 := by simp [List.getD, hn]
    rw [e]; omega
theorem storeOf_ok {v : List Int} (h : valsIn v) : entsOk 1 (storeOf v) = true := by
  refine entsOk_of (stTo_asc v 32) fun x hx => ?_
  obtain ⟨i, h1, h2, rfl⟩ := stTo_mem.1 hx
  have := valsIn_get h i
  exact ⟨by show (0 : Int) ≤ (i : Int); omega, by show (i : Int) ≤ 31; omega, by show (1 : Int) ≤ v.getD i 0; omega, this.2⟩
theorem atK_storeOf {v : List Int} (h : valsIn v) {n : Nat} (hn : n < 32) : atK (storeOf v) n = v.getD n 0 := by
  by_cases hp : 0 < v.getD n 0
  · have hm : (⟨(n : Int), v.getD n 0⟩ : Ent) ∈ storeOf v := stTo_mem.2 ⟨n, hn, hp, rfl⟩
    have := find_asc (stTo_asc v 32) hm
    show atK (stTo v 32) n = _
    unfold atK
    rw [show (stTo v 32).find? (fun e => e.k == (n : Int)) = some ⟨(n : Int), v.getD n 0⟩ from this]
  · have h0 := valsIn_get h n
    have hnone : (stTo v 32).find? (fun e => e.k == (n : Int)) = none := by
      rw [List.find?_eq_none]
      intro x hx
      obtain ⟨i, _, h2, rfl⟩ := stTo_mem.1 hx
      simp only [beq_iff_eq]
      intro e
      have : i = n := by have : (i : Int) = (n : Int) := e; omega
      subst this; exact hp h2
    show atK (stTo v 32) n = _
    unfold atK; rw [hnone]; show (0 : Int) = _; omega
theorem valsOf_getD {least : Int} {l : List Ent} (h : entsOk least l = true) {n : Nat} (hn : n < 32) : (valsOf l).getD n 0 = atK l n := by
  simp [List.getD, valsOf_get h hn]
theorem valsOf_in {l : List Ent} (h : entsOk 0 l = true) : valsIn (valsOf l) := by
  refine ⟨valsOf_length l, fun x hx => ?_⟩
  obtain ⟨i, hi⟩ := List.getElem?_of_mem hx
  have hlt : i < 32 := by have := (List.getElem?_eq_some_iff.1 hi).1; rw [valsOf_length] at this; exact this
  rw [valsOf_get h hlt] at hi
  cases hi
  exact atK_in h (by omega) _
theorem storeOf_valsOf {l : List Ent} (h : entsOk 1 l = true) : storeOf (valsOf l) = l := by
  have hv := valsOf_in (entsOk_least (by decide) h)
  refine sto_ext (storeOf_ok hv) h fun key k0 k1 => ?_
  have := atK_storeOf hv (n := key.toNat) (by omega)
  rw [show ((key.toNat : Nat) : Int) = key from by omega] at this
  rw [this, valsOf_getD h (by omega), show ((key.toNat : Nat) : Int) = key from by omega]
theorem valsOf_storeOf {v : List Int} (h : valsIn v) : valsOf (storeOf v) = v := by
  apply List.ext_getElem?
  intro n
  by_cases hn : n < 32
  · rw [valsOf_get (storeOf_ok h) hn, atK_storeOf h hn]
    have : n < v.length := by rw [h.1]; exact hn
    simp [List.getD, this]
  · rw [List.getElem?_eq_none (by rw [valsOf_length]; omega), List.getElem?_eq_none (by rw [h.1]; omega)]
theorem valsIn_set {v : List Int} (h : valsIn v) {n : Nat} {x : Int} (hx : 0 ≤ x ∧ x ≤ 1000000) : valsIn (v.set n x) := by
  refine ⟨by rw [List.length_set]; exact h.1, fun y hy => ?_⟩
  rcases List.mem_or_eq_of_mem_set hy with h1 | h1
  · exact h.2 y h1
  · subst h1; exact hx
theorem valsIn_vsets {l : List Ent} (hl : ∀ x ∈ l, 0 ≤ x.v ∧ x.v ≤ 1000000) : ∀ {v : List Int}, valsIn v → valsIn (vsets v l) := by
  induction l with
  | nil => intro v h; exact h
  | cons e l ih => intro v h; exact ih (fun x hx => hl x (by simp [hx])) (valsIn_set h (hl e (by simp)))
/-- What the reference puts into a store is what the program sets in the values. -/
theorem putF_store {v : List Int} (h : valsIn v) {e : Ent} (k0 : 0 ≤ e.k) (k1 : e.k ≤ 31) (v0 : 0 ≤ e.v) (v1 : e.v ≤ 1000000) : putF (decide (e.v = 0)) e.k e.v (storeOf v) = storeOf (vset v e) := by
  have hs := storeOf_ok h
  have hv2 : valsIn (vset v e) := valsIn_set h ⟨v0, v1⟩
  rw [putF_asc (asc_of hs)]
  refine sto_ext (putS_ok hs k0 k1 fun hp => ?_) (storeOf_ok hv2) fun key h0 h1 => ?_
  · simp at hp; omega
  · rw [atK_putS (fun hp => by simpa using hp)]
    have h2 := atK_storeOf hv2 (n := key.toNat) (by omega)
    have h3 := atK_storeOf h (n := key.toNat) (by omega)
    rw [show ((key.toNat : Nat) : Int) = key from by omega] at h2 h3
    rw [h2, h3]
    have hl : key.toNat < v.length := by rw [h.1]; omega
    have hg := vset_get (v := v) (e := e) k0 hl
    by_cases hk : key = e.k
    · rw [if_pos hk]
      rw [if_pos (by omega)] at hg
      simp [List.getD, hg]
    · rw [if_neg hk]
      rw [if_neg (by omega)] at hg
      simp [List.getD, hg]
end Go.Proofs.Ytknohbdhbjppjaa
namespace Go.Proofs.Ytknohbdhbjppjaa
open Go Go.RowKit

/-- out = append(out, x), x's cells in the block that was made last. -/
theorem wpList_push1 {P : Program} {t e sz bytes : Nat} (F : AppFacts P t e sz bytes) {ops : Array Oper} {rest : List Oper} {o : Oper} {a : Act} {Q : Exit → Act → World → Prop} (hgd : o.guard = none) (s x : Operand)
    (ho : o.op = .call { callee := .builtin .append, args := #[s, x], argTypes := #[t, t] }) {α : Type} (enc : α → List Value) (Wb : World) {W1 : World} {cs : Array Value} {e' : TypeId} (y : α) (l : List α) {v : Value} (hs : a.eval s = v)
    (hown : Own enc e sz Wb.heap.size W1 v l) (hE : Ext Wb W1) {g : Nat} (hx : a.eval x = .slice (some ⟨g, 0, none⟩) 1 1) (hg : g = W1.heap.size) (hcs : cs.toList = enc y) (hl : (enc y).length = sz)
    (h1 : ∀ u ∈ enc y, u.oneCell' = true) (hb : (l.length + 1) * bytes ≤ 140737488355328) (hb' : l.length + 1 ≤ 9223372036854775807)
    (h : ∀ v' (z1 : Extd Wb), Own enc e sz Wb.heap.size z1.val v' (l ++ [y]) → wpList P ops Q rest (a.put o.dst v') z1.val) : wpList P ops Q (o :: rest) a (W1.alloc (.cells cs e')) := by
  subst hg
  refine wpList_push F hgd s x ho enc Wb y l hs (hown.up ((Ext.refl _).alloc _)) (hE.alloc _) hx hl (fun j u hu => ?_) h1 hb hb' h
  have e1 : (⟨W1.heap.size, 0, none⟩ : Addr).add j = ⟨W1.heap.size, j, none⟩ := by unfold Addr.add; split <;> simp_all
  rw [e1, cell_of_row _ W1.heap.size j cs e' (0, 0) (heap_alloc_new W1 _), ← Array.getElem?_toList, hcs]
  exact hu
theorem Own.kept {α : Type} {enc : α → List Value} {e sz lo : Nat} {w w' : World} {v : Value} {l : List α} {row : Option Nat} (h : Own enc e sz lo w v l) (hg : w.grownBy w' row) (hne : v.ownBlock = none ∨ v.ownBlock ≠ row) : Own enc e sz lo w' v l := World.ownsRow.kept h hg hne
/-- Of two slices the one was there before the other was begun: they share no block. -/
theorem Own.apart {α β : Type} {enc : α → List Value} {enc' : β → List Value} {e sz lo e' sz' lo' : Nat} {w w' : World} {v v' : Value} {l : List α} {l' : List β} (h : Own enc e sz lo w v l) (h' : Own enc' e' sz' lo' w' v' l') (hlt : w.heap.size ≤ lo') : v.ownBlock ≠ v'.ownBlock ∨ v.ownBlock = none := by
  cases hv : v.ownBlock with
  | none => exact .inr rfl
  | some k =>
    left
    intro e
    have h1 := (World.ownsRow.lt h k hv).2
    have h2 := (World.ownsRow.lt h' k e.symm).1
    omega
theorem Own.after {α β : Type} {enc : α → List Value} {enc' : β → List Value} {e sz lo e' sz' lo' : Nat} {w w' : World} {v v' : Value} {l : List α} {l' : List β} (h : Own enc e sz lo w v l) (h' : Own enc' e' sz' lo' w' v' l') (hlt : w'.heap.size ≤ lo) : v.ownBlock = none ∨ v.ownBlock ≠ v'.ownBlock := by
  cases hv : v.ownBlock with
  | none => exact .inl rfl
  | some k =>
    right
    intro e
    have h1 := (World.ownsRow.lt h k hv).1
    have h2 := (World.ownsRow.lt h' k e.symm).2
    omega
theorem Own.ext_grown {α : Type} {enc : α → List Value} {e sz lo : Nat} {a w w' : World} {v : Value} {l : List α} (h : Own enc e sz lo w v l) (hE : Ext a w) (hlo : a.heap.size ≤ lo) (hg : w.grownBy w' v.ownBlock) : Ext a w' :=
  hE.grown hg (fun k hk => Nat.le_trans hlo (World.ownsRow.lt h k hk).1)
theorem oneV (x : Ver) : ∀ u ∈ x.enc, u.oneCell' = true := by simp [Ver.enc, Value.oneCell']
theorem oneE (x : Ent) : ∀ u ∈ x.enc, u.oneCell' = true := by simp [Ent.enc, Value.oneCell']
theorem oneA (x : Actn) : ∀ u ∈ x.enc, u.oneCell' = true := by simp [Actn.enc, Value.oneCell']
theorem oneI (x : Int) : ∀ u ∈ encI x, u.oneCell' = true := by simp [encI, Value.oneCell']
end Go.Proofs.Ytknohbdhbjppjaa
namespace Go.Proofs.Ytknohbdhbjppjaa
open Go Go.RowKit

theorem summed_iff {l : List Int} : summed l = true ↔ ∀ n ∈ l, 0 ≤ n ∧ n ≤ 2000000 := by simp [summed, inR_iff]
theorem summed_at {l : List Int} (h : summed l = true) {k : Nat} {n : Int} (hn : l[k]? = some n) : 0 ≤ n ∧ n ≤ 2000000 := summed_iff.1 h n (List.mem_of_getElem? hn)
theorem sumOf_yes {tag : Int} {l : List Int} (h0 : 0 ≤ tag) (h9 : tag ≤ 9) (h : summed l = true) : sumOf tag l = sumL (17 + tag) l := by
  unfold sumOf; rw [if_pos (by simp [h, inR]; omega)]
theorem sumOf_no {tag : Int} {l : List Int} (h : summed l = false) : sumOf tag l = -1 := by unfold sumOf; rw [if_neg (by simp [h])]
theorem sumOf_tag {tag : Int} {l : List Int} (h : inR tag 0 9 = false) : sumOf tag l = -1 := by unfold sumOf; rw [if_neg (by simp [h])]
theorem sumTo_in {tag : Int} (h0 : 0 ≤ tag) (h9 : tag ≤ 9) (l : List Int) : 0 ≤ sumL (17 + tag) l ∧ sumL (17 + tag) l < 1000003 := sumL_in (by omega) (by omega) l
def aNums (l : List Actn) : List Int := l.flatMap fun x => [x.kind, x.src, x.dst, x.amt]
theorem aNums_snoc {l : List Actn} {k : Nat} {x : Actn} (h : l[k]? = some x) : aNums (l.take (k + 1)) = aNums (l.take k) ++ [x.kind, x.src, x.dst, x.amt] := by
  rw [List.take_add_one, h]; simp [aNums]
theorem aNums_length (l : List Actn) : (aNums l).length = 4 * l.length := by
  induction l with
  | nil => rfl
  | cons x l ih => simp [aNums, List.flatMap_cons] at *; omega
theorem Actn.ok_kind {x : Actn} (h : x.ok = true) : 1 ≤ x.kind ∧ x.kind ≤ 6 := by
  simp only [Actn.ok, Bool.and_eq_true] at h
  have := h.2.2.2
  unfold kindOk at this
  split at this
  · omega
  · split at this
    · omega
    · simp at this; omega
theorem aNums_summed {l : List Actn} (h : ∀ x ∈ l, x.ok = true) : summed (aNums l) = true := by
  rw [summed_iff]
  intro n hn
  simp only [aNums, List.mem_flatMap] at hn
  obtain ⟨x, hx, hn⟩ := hn
  have h1 := h x hx
  have h2 := Actn.ok_kind h1
  simp only [Actn.ok, Bool.and_eq_true, inR_iff] at h1
  simp at hn
  omega
theorem summed_append {a b : List Int} (h : summed a = true) (h' : summed b = true) : summed (a ++ b) = true := by
  rw [summed_iff] at *; intro n hn; rcases List.mem_append.1 hn with h1 | h1
  · exact h n h1
  · exact h' n h1
/-- append of several elements just built. -/
theorem wpList_pushL {P : Program} {t e sz bytes : Nat} (F : AppFacts P t e sz bytes) {ops : Array Oper} {rest : List Oper} {o : Oper} {a : Act} {Q : Exit → Act → World → Prop} (hgd : o.guard = none) (s x : Operand)
    (ho : o.op = .call { callee := .builtin .append, args := #[s, x], argTypes := #[t, t] }) {α : Type} (enc : α → List Value) (he : ∀ x, (enc x).length = sz) (Wb : World) {W1 : World} {cs : Array Value} {e' : TypeId} (ys : List α) (l : List α) {v : Value} (hs : a.eval s = v)
    (hown : Own enc e sz Wb.heap.size W1 v l) (hE : Ext Wb W1) {g m c : Nat} (hx : a.eval x = .slice (some ⟨g, 0, none⟩) m c) (hm : m = ys.length) (hg : g = W1.heap.size) (hcs : cs.toList = ys.flatMap enc)
    (h1 : ∀ u ∈ ys.flatMap enc, u.oneCell' = true) (hb : (l.length + ys.length) * bytes ≤ 140737488355328) (hb' : l.length + ys.length ≤ 9223372036854775807)
    (h : ∀ v' (z1 : Extd Wb), Own enc e sz Wb.heap.size z1.val v' (l ++ ys) → wpList P ops Q rest (a.put o.dst v') z1.val) : wpList P ops Q (o :: rest) a (W1.alloc (.cells cs e')) := by
  subst hg; subst hm
  obtain ⟨i, z, hi, hz, hsize, hby, hzs⟩ := F.info
  have hown' : (W1.alloc (.cells cs e')).ownsRow Wb.heap.size e sz v l.length (l.flatMap enc) := hown.up ((Ext.refl _).alloc _)
  have hE' := hE.alloc (.cells cs e')
  refine wpList_append_own _ hgd s x t ho Wb.heap.size e i z sz bytes F.und hi hz hsize hby hzs F.pos v l.length (l.flatMap enc) hs hown' ⟨W1.heap.size, 0, none⟩ ys.length c (ys.flatMap enc) hx (flatMap_length he ys) (fun j u hu => ?_) h1 (by simpa [maxLen] using hb') hb hE'.size ?_
  · have e1 : (⟨W1.heap.size, 0, none⟩ : Addr).add j = ⟨W1.heap.size, j, none⟩ := by unfold Addr.add; split <;> simp_all
    rw [e1, cell_of_row _ W1.heap.size j cs e' (0, 0) (heap_alloc_new W1 _), ← Array.getElem?_toList, hcs]
    exact hu
  · intro v' w1 hown1 hg1 _
    refine h v' ⟨w1, hE'.grown hg1 fun k hk => (World.ownsRow.lt hown' k hk).1⟩ ?_
    show w1.ownsRow _ _ _ _ _ _
    simpa [Own] using hown1
/-- .. in a region that draws its order. -/
theorem step_pushL {P : Program} {t e sz bytes : Nat} (F : AppFacts P t e sz bytes) {ops : Array Oper} {o : Oper} {a : Act} {K : Act → World → Prop} {Q : Exit → Act → World → Prop} {E : Prop} (hgd : o.guard = none) (s x : Operand)
    (ho : o.op = .call { callee := .builtin .append, args := #[s, x], argTypes := #[t, t] }) {α : Type} (enc : α → List Value) (he : ∀ x, (enc x).length = sz) (Wb : World) {W1 : World} {cs : Array Value} {e' : TypeId} (ys : List α) (l : List α) {v : Value} (hs : a.eval s = v)
    (hown : Own enc e sz Wb.heap.size W1 v l) (hE : Ext Wb W1) {g m c : Nat} (hx : a.eval x = .slice (some ⟨g, 0, none⟩) m c) (hm : m = ys.length) (hm0 : 0 < m) (hg : g = W1.heap.size) (hcs : cs.toList = ys.flatMap enc)
    (h1 : ∀ u ∈ ys.flatMap enc, u.oneCell' = true) (hb : (l.length + ys.length) * bytes ≤ 140737488355328) (hb' : l.length + ys.length ≤ 9223372036854775807)
    (h : ∀ v' (z1 : Extd Wb), Own enc e sz Wb.heap.size z1.val v' (l ++ ys) → K (a.put o.dst v') z1.val) :
    if Region.wanted o (yielded ops a.tmps) = true then Oper.wp P o a (W1.alloc (.cells cs e')).drew K Q else E := by
  subst hg; subst hm
  obtain ⟨i, z, hi, hz, hsize, hby, hzs⟩ := F.info
  have hown' : (W1.alloc (.cells cs e')).drew.ownsRow Wb.heap.size e sz v l.length (l.flatMap enc) := hown.up ((Ext.refl _).alloc _).drew
  have hE' := (hE.alloc (.cells cs e')).drew
  refine step_append_lies _ hgd s x t ho Wb.heap.size e i z sz bytes F.und hi hz hsize hby hzs F.pos v l.length (l.flatMap enc) hs hown' ⟨W1.heap.size, 0, none⟩ ys.length c (ys.flatMap enc) hx (flatMap_length he ys) (fun j u hu => ?_) h1 hm0 (by simpa [maxLen] using hb') hb hE'.size _ rfl ?_
  · have e1 : (⟨W1.heap.size, 0, none⟩ : Addr).add j = ⟨W1.heap.size, j, none⟩ := by unfold Addr.add; split <;> simp_all
    rw [e1, cell_of_row (W1.alloc (.cells cs e')).drew W1.heap.size j cs e' (0, 0) (heap_alloc_new W1 _), ← Array.getElem?_toList, hcs]
    exact hu
  · intro g cap w1 hown1 hg1 _ _
    refine h _ ⟨w1, hE'.grown hg1 fun k hk => (World.ownsRow.lt hown' k hk).1⟩ ?_
    show w1.ownsRow _ _ _ _ _ _
    simpa [Own] using hown1
theorem oneIs (l : List Int) : ∀ u ∈ l.flatMap encI, u.oneCell' = true := by
  intro u hu
  obtain ⟨x, _, h⟩ := List.mem_flatMap.1 hu
  exact oneI x u h
end Go.Proofs.Ytknohbdhbjppjaa
