/- Plain laws: actions: which keys they read and write; masks of keys. Plain laws: a store with another value; values back to a store; effects. Plain ground: append of one element just built. Plain laws: sums of blocks. Plain ground: append where other slices of the call's own lie beside: which block was written. Walks: the small functions on numbers. -/
import Derived.Test.YteiemjebdhmnaaaGSoTop00
import Derived.Deep.AppendLies
import Derived.Maps.AppendAt
import Derived.Test.YteiemjebdhmnaaaProg
set_option linter.unusedSimpArgs false
set_option linter.unusedVariables false
namespace Go.Proofs.Yteiemjebdhmnaaa
open Go Go.RowKit

def kindOk (kind dst amt : Int) : Bool := if kind = 1 ∨ kind = 6 then decide (dst = 0) else if kind = 3 ∨ kind = 4 ∨ kind = 5 then decide (amt = 0) else decide (kind = 2)
def Actn.ok (x : Actn) : Bool := inR x.src 0 31 && (inR x.dst 0 31 && (inR x.amt 0 1000000 && kindOk x.kind x.dst x.amt))
/-- The keys that an action reads. -/
def Actn.rk (x : Actn) : List Int := if x.kind = 1 then [] else if x.kind = 3 ∨ x.kind = 6 ∨ x.src = x.dst then [x.src] else [x.src, x.dst]
/-- The keys that it may write. -/
def Actn.wk (x : Actn) : List Int := if x.kind = 1 ∨ x.kind = 6 then [x.src] else if x.kind = 3 ∨ x.kind = 5 ∨ x.src = x.dst then [x.dst] else [min x.src x.dst, max x.src x.dst]
theorem kinds (k : Int) : k = 1 ∨ k = 2 ∨ k = 3 ∨ k = 4 ∨ k = 5 ∨ k = 6 ∨ (k ≠ 1 ∧ k ≠ 2 ∧ k ≠ 3 ∧ k ≠ 4 ∧ k ≠ 5 ∧ k ≠ 6) := by omega
theorem Actn.rk_in {x : Actn} (h : x.ok = true) : ∀ n ∈ x.rk, 0 ≤ n ∧ n ≤ 31 := by
  simp only [Actn.ok, Bool.and_eq_true, inR_iff] at h
  obtain ⟨⟨h1, h2⟩, ⟨h3, h4⟩, _⟩ := h
  intro n hn
  unfold Actn.rk at hn
  split at hn
  · simp at hn
  · split at hn <;> simp at hn
    · omega
    · rcases hn with rfl | rfl <;> omega
theorem Actn.wk_in {x : Actn} (h : x.ok = true) : ∀ n ∈ x.wk, 0 ≤ n ∧ n ≤ 31 := by
  simp only [Actn.ok, Bool.and_eq_true, inR_iff] at h
  obtain ⟨⟨h1, h2⟩, ⟨h3, h4⟩, _⟩ := h
  intro n hn
  unfold Actn.wk at hn
  split at hn
  · simp at hn; omega
  · split at hn <;> simp at hn
    · omega
    · rcases hn with rfl | rfl <;> omega
theorem Actn.rk_le (x : Actn) : x.rk.length ≤ 2 := by unfold Actn.rk; split <;> (try split) <;> simp
theorem Actn.wk_le (x : Actn) : x.wk.length ≤ 2 := by unfold Actn.wk; split <;> (try split) <;> simp

/-- Keys as bits. -/
def maskN (l : List Int) : Nat := l.foldl (fun m k => m ||| 2 ^ k.toNat) 0
theorem maskN_snoc (l : List Int) (k : Int) : maskN (l ++ [k]) = maskN l ||| 2 ^ k.toNat := by simp [maskN]
theorem maskN_lt (l : List Int) (h : ∀ n ∈ l, 0 ≤ n ∧ n ≤ 31) : maskN l < 4294967296 := by
  have key : ∀ (l : List Int) (m : Nat), m < 2 ^ 32 → (∀ n ∈ l, 0 ≤ n ∧ n ≤ 31) → l.foldl (fun m k => m ||| 2 ^ k.toNat) m < 2 ^ 32 := by
    intro l
    induction l with
    | nil => intro m hm _; simpa using hm
    | cons k l ih =>
      intro m hm h
      simp only [List.foldl_cons]
      refine ih _ (Nat.or_lt_two_pow hm ?_) (fun n hn => h n (by simp [hn]))
      have := h k (by simp)
      exact Nat.pow_lt_pow_right (by decide) (by omega)
  exact key l 0 (by decide) h
theorem maskN_bit (l : List Int) (i : Nat) (h : ∀ n ∈ l, 0 ≤ n) : (maskN l).testBit i = decide ((i : Int) ∈ l) := by
  have key : ∀ (l : List Int) (m : Nat), (∀ n ∈ l, 0 ≤ n) → (l.foldl (fun m k => m ||| 2 ^ k.toNat) m).testBit i = (m.testBit i || decide ((i : Int) ∈ l)) := by
    intro l
    induction l with
    | nil => intro m _; simp
    | cons k l ih =>
      intro m h
      simp only [List.foldl_cons]
      rw [ih _ (fun n hn => h n (by simp [hn])), Nat.testBit_or, Nat.testBit_two_pow]
      have := h k (by simp)
      have e : decide (k.toNat = i) = decide ((i : Int) = k) := by rw [Bool.eq_iff_iff]; simp; omega
      rw [e, Bool.or_assoc]
      simp
  have := key l 0 h
  simpa [maskN] using this
/-- A key of both. -/
def common (a b : List Int) : Bool := a.any fun x => b.contains x
theorem maskN_and {a b : List Int} (ha : ∀ n ∈ a, 0 ≤ n) (hb : ∀ n ∈ b, 0 ≤ n) : (maskN a &&& maskN b ≠ 0) ↔ common a b = true := by
  constructor
  · intro h
    obtain ⟨i, hi⟩ := Nat.exists_testBit_of_ne_zero h
    rw [Nat.testBit_and, maskN_bit a i ha, maskN_bit b i hb] at hi
    simp at hi
    simp only [common, List.any_eq_true]
    exact ⟨i, hi.1, by simpa using hi.2⟩
  · intro h
    simp only [common, List.any_eq_true] at h
    obtain ⟨x, hx, hy⟩ := h
    have h0 := ha x hx
    have e : (x.toNat : Int) = x := by omega
    intro hz
    have h1 : (maskN a &&& maskN b).testBit x.toNat = true := by
      rw [Nat.testBit_and, maskN_bit a _ ha, maskN_bit b _ hb, e]
      simp at hy
      simp [hx, hy]
    rw [hz] at h1
    simp at h1
/-- Two actions that may not change their order. -/
def conf (a b : Actn) : Bool := common a.wk b.wk || (common a.wk b.rk || common a.rk b.wk)
def conflict (a b : Actn) : Bool := a.ok && (b.ok && conf a b)
end Go.Proofs.Yteiemjebdhmnaaa
namespace Go.Proofs.Yteiemjebdhmnaaa
open Go Go.RowKit

/-! ### One value more -/
def putStep (key v : Int) (p : List Ent × Bool) (e : Ent) : List Ent × Bool :=
  (p.1 ++ (if (!p.2 && decide (key ≤ e.k)) = true then [⟨key, v⟩] else []) ++ (if e.k ≠ key then [e] else []), p.2 || decide (key ≤ e.k))
def putTo2 (p0 : Bool) (key v : Int) (l : List Ent) : List Ent × Bool := l.foldl (putStep key v) ([], p0)
def putF (p0 : Bool) (key v : Int) (l : List Ent) : List Ent := if (putTo2 p0 key v l).2 = true then (putTo2 p0 key v l).1 else (putTo2 p0 key v l).1 ++ [⟨key, v⟩]
theorem putTo2_snoc (p0 : Bool) (key v : Int) {l : List Ent} {k : Nat} {x : Ent} (h : l[k]? = some x) : putTo2 p0 key v (l.take (k + 1)) = putStep key v (putTo2 p0 key v (l.take k)) x := by
  rw [List.take_add_one, h]; simp [putTo2]
theorem putTo2_le (p0 : Bool) (key v : Int) (l : List Ent) : (putTo2 p0 key v l).1.length ≤ 2 * l.length := by
  have key' : ∀ (l : List Ent) (p : List Ent × Bool), (l.foldl (putStep key v) p).1.length ≤ p.1.length + 2 * l.length := by
    intro l
    induction l with
    | nil => intro p; simp
    | cons e l ih =>
      intro p
      have := ih (putStep key v p e)
      have h2 : (putStep key v p e).1.length ≤ p.1.length + 2 := by
        unfold putStep
        dsimp only
        rw [List.length_append, List.length_append]
        split <;> split <;> simp <;> omega
      simp only [List.foldl_cons, List.length_cons] at *; omega
  have := key' l ([], p0)
  simpa [putTo2] using this
theorem foldl_placed (key v : Int) : ∀ (l : List Ent) (acc : List Ent), l.foldl (putStep key v) (acc, true) = (acc ++ l.filter (fun e => decide (e.k ≠ key)), true)
  | [], acc => by simp
  | e :: l, acc => by
    rw [List.foldl_cons]
    by_cases h : e.k = key
    · have : putStep key v (acc, true) e = (acc, true) := by simp [putStep, h]
      rw [this, foldl_placed key v l acc]; simp [h]
    · have : putStep key v (acc, true) e = (acc ++ [e], true) := by simp [putStep, h]
      rw [this, foldl_placed key v l (acc ++ [e])]; simp [h]
/-- In a list of ascending keys. -/
def putS (key v : Int) (put : Bool) (l : List Ent) : List Ent := l.filter (fun e => decide (e.k < key)) ++ (if put = true then [⟨key, v⟩] else []) ++ l.filter (fun e => decide (key < e.k))
theorem filter_ne {key : Int} : ∀ {l : List Ent}, l.Pairwise (fun a b => a.k < b.k) → l.filter (fun e => decide (e.k ≠ key)) = l.filter (fun e => decide (e.k < key)) ++ l.filter (fun e => decide (key < e.k))
  | [], _ => rfl
  | e :: l, h => by
    rw [List.pairwise_cons] at h
    have ih := filter_ne (key := key) h.2
    by_cases h1 : e.k < key
    · have h2 : e.k ≠ key := by omega
      have h3 : ¬ key < e.k := by omega
      simp only [List.filter_cons, h1, h2, h3, decide_true, decide_false, if_true, ne_eq, not_false_eq_true, Bool.false_eq_true, if_false, List.cons_append, ih]
    · have hnone : l.filter (fun e => decide (e.k < key)) = [] := by
        rw [List.filter_eq_nil_iff]; intro x hx; have := h.1 x hx; simp; omega
      rw [hnone, List.nil_append] at ih
      by_cases h2 : e.k = key
      · have h3 : ¬ key < e.k := by omega
        simp only [List.filter_cons, h1, h2, h3, decide_true, decide_false, if_true, ne_eq, not_true_eq_false, Bool.false_eq_true, if_false, ih, hnone, List.nil_append]
        simp [h2]
      · have h3 : key < e.k := by omega
        simp only [List.filter_cons, h1, h2, h3, decide_true, decide_false, if_true, ne_eq, not_false_eq_true, Bool.false_eq_true, if_false, ih, hnone, List.nil_append]
theorem putF_asc {key v : Int} {l : List Ent} (h : l.Pairwise fun a b => a.k < b.k) (p0 : Bool) : putF p0 key v l = putS key v (!p0) l := by
  cases p0 with
  | true =>
    unfold putF putTo2
    rw [foldl_placed]
    simp only [if_true, List.nil_append, putS, Bool.not_true, Bool.false_eq_true, if_false, List.append_nil]
    exact filter_ne h
  | false =>
    have key' : ∀ (l acc : List Ent), l.Pairwise (fun a b => a.k < b.k) → (let r := l.foldl (putStep key v) (acc, false); if r.2 = true then r.1 else r.1 ++ [⟨key, v⟩]) = acc ++ putS key v true l := by
      intro l
      induction l with
      | nil => intro acc _; simp [putS]
      | cons e l ih =>
        intro acc h
        rw [List.pairwise_cons] at h
        by_cases h1 : e.k < key
        · have e1 : putStep key v (acc, false) e = (acc ++ [e], false) := by
            have h2 : ¬ key ≤ e.k := by omega
            have h3 : e.k ≠ key := by omega
            simp [putStep, h2, h3]
          have h3 : ¬ key < e.k := by omega
          have := ih (acc ++ [e]) h.2
          rw [List.foldl_cons, e1, this]
          simp [putS, h1, h3]
        · have hnone : l.filter (fun e => decide (e.k < key)) = [] := by
            rw [List.filter_eq_nil_iff]; intro x hx; have := h.1 x hx; simp; omega
          have hall : l.filter (fun e => decide (key < e.k)) = l := by
            rw [List.filter_eq_self]; intro x hx; have := h.1 x hx; simp; omega
          have hall' : l.filter (fun e => decide (e.k ≠ key)) = l := by
            rw [List.filter_eq_self]; intro x hx; have := h.1 x hx; simp; omega
          have e1 : putStep key v (acc, false) e = (acc ++ [⟨key, v⟩] ++ (if e.k ≠ key then [e] else []), true) := by
            have h2 : key ≤ e.k := by omega
            simp [putStep, h2]
          rw [List.foldl_cons, e1, foldl_placed, hall']
          by_cases h2 : e.k = key
          · have h3 : ¬ key < e.k := by omega
            simp only [putS, List.filter_cons, h1, h3, hnone, hall, if_true, decide_false, Bool.false_eq_true, if_false, List.nil_append, h2, ne_eq, not_true_eq_false, List.append_nil]
            simp
          · have h3 : key < e.k := by omega
            simp only [putS, List.filter_cons, h1, h3, hnone, hall, if_true, decide_false, decide_true, Bool.false_eq_true, if_false, List.nil_append, h2, ne_eq, not_false_eq_true]
            simp
    have h1 := key' l [] h
    rw [List.nil_append] at h1
    exact h1
/-! ### Lists of ascending keys by their values -/
theorem atK_append (a b : List Ent) (key : Int) : atK (a ++ b) key = match a.find? (fun e => e.k == key) with | some e => e.v | none => atK b key := by
  unfold atK
  rw [List.find?_append]
  cases a.find? (fun e => e.k == key) <;> rfl
theorem find_filter_ne {l : List Ent} {p : Ent → Bool} {key : Int} (h : ∀ e, e.k = key → p e = false) : (l.filter p).find? (fun e => e.k == key) = none := by
  rw [List.find?_eq_none]
  intro e he
  rw [List.mem_filter] at he
  simp only [beq_iff_eq]
  intro hk
  rw [h e hk] at he; exact absurd he.2 (by simp)
theorem find_filter_eq {l : List Ent} {p : Ent → Bool} {key : Int} (h : ∀ e, e.k = key → p e = true) : (l.filter p).find? (fun e => e.k == key) = l.find? (fun e => e.k == key) := by
  rw [List.find?_filter]
  congr 1
  funext e
  by_cases hk : e.k = key
  · simp [hk, h e hk]
  · simp [hk]
theorem atK_putS {key v : Int} {put : Bool} {l : List Ent} (hv : put = false → v = 0) (n : Int) : atK (putS key v put l) n = if n = key then v else atK l n := by
  unfold putS
  rw [atK_append, List.find?_append]
  by_cases h : n = key
  · subst h
    rw [find_filter_ne (fun e he => by simp; omega), Option.none_or, if_pos rfl]
    cases put with
    | true => simp
    | false =>
      simp only [Bool.false_eq_true, if_false, List.find?_nil]
      rw [hv rfl]
      unfold atK
      rw [find_filter_ne (fun e he => by simp; omega)]
  · rw [if_neg h]
    have hm : (if put = true then [(⟨key, v⟩ : Ent)] else []).find? (fun e => e.k == n) = none := by
      split
      · simp; omega
      · rfl
    rw [hm, Option.or_none]
    by_cases h1 : n < key
    · rw [find_filter_eq (fun e he => by simp; omega)]
      have : atK (l.filter fun e => decide (key < e.k)) n = 0 := by unfold atK; rw [find_filter_ne (fun e he => by simp; omega)]
      rw [this]
      unfold atK
      cases l.find? (fun e => e.k == n) <;> rfl
    · rw [find_filter_ne (fun e he => by simp; omega)]
      unfold atK
      simp only
      rw [find_filter_eq (fun e he => by simp; omega)]
theorem entsOk_of {least : Int} {l : List Ent} (hs : l.Pairwise fun a b => a.k < b.k) (hin : ∀ x ∈ l, 0 ≤ x.k ∧ x.k ≤ 31 ∧ least ≤ x.v ∧ x.v ≤ 1000000) : entsOk least l = true := by
  refine upTo_iff.2 fun i hi => ?_
  obtain ⟨x, hx⟩ := getElem?_some_of_lt hi
  have h1 := hin x (List.mem_of_getElem? hx)
  have h2 : (inR x.k 0 31 && inR x.v least 1000000) = true := by simp only [Bool.and_eq_true, inR_iff]; omega
  by_cases h0 : 0 < i
  · obtain ⟨y, hy⟩ := getElem?_some_of_lt (show i - 1 < l.length by omega)
    rw [entAt_next hx h0 hy, h2, Bool.true_and, decide_eq_true_eq]
    obtain ⟨hi1, hi2⟩ := List.getElem?_eq_some_iff.1 hx
    obtain ⟨hj1, hj2⟩ := List.getElem?_eq_some_iff.1 hy
    rw [List.pairwise_iff_getElem] at hs
    have := hs (i - 1) i hj1 hi1 (by omega)
    rw [hi2, hj2] at this; exact this
  · rw [entAt_first hx h0, h2]
theorem putS_ok {least : Int} {key v : Int} {put : Bool} {l : List Ent} (h : entsOk least l = true) (k0 : 0 ≤ key) (k1 : key ≤ 31) (hv : put = true → least ≤ v ∧ v ≤ 1000000) : entsOk least (putS key v put l) = true := by
  have hs := asc_of h
  refine entsOk_of ?_ fun x hx => ?_
  · unfold putS
    rw [List.pairwise_append, List.pairwise_append]
    refine ⟨⟨hs.filter _, ?_, fun a ha b hb => ?_⟩, hs.filter _, fun a ha b hb => ?_⟩
    · split <;> simp
    · have := (List.mem_filter.1 ha).2
      split at hb
      · simp at hb this; subst hb; exact this
      · simp at hb
    · have h2 := (List.mem_filter.1 hb).2
      simp at h2
      rcases List.mem_append.1 ha with ha | ha
      · have := (List.mem_filter.1 ha).2; simp at this; omega
      · split at ha
        · simp at ha; subst ha; exact h2
        · simp at ha
  · unfold putS at hx
    rcases List.mem_append.1 hx with hx | hx
    · rcases List.mem_append.1 hx with hx | hx
      · exact entsOk_mem h (List.mem_filter.1 hx).1
      · split at hx
        · rename_i hp
          simp at hx; subst hx
          have := hv hp
          exact ⟨k0, k1, this.1, this.2⟩
        · simp at hx
    · exact entsOk_mem h (List.mem_filter.1 hx).1
/-- Stores with the same values are the same. -/
theorem find_asc {l : List Ent} (hs : l.Pairwise fun a b => a.k < b.k) {x : Ent} (hx : x ∈ l) : l.find? (fun e => e.k == x.k) = some x := by
  induction l with
  | nil => cases hx
  | cons a l ih =>
    rw [List.pairwise_cons] at hs
    rw [List.find?_cons]
    rcases List.mem_cons.1 hx with rfl | hx
    · simp
    · have := hs.1 x hx
      have hne : (a.k == x.k) = false := by simp; omega
      simp only [hne]
      exact ih hs.2 hx
theorem sto_mem {a b : List Ent} (ha : entsOk 1 a = true) (hb : entsOk 1 b = true) (h : ∀ key : Int, 0 ≤ key → key ≤ 31 → atK a key = atK b key) {x : Ent} (hx : x ∈ a) : x ∈ b := by
  have hin := entsOk_mem ha hx
  have h1 := h x.k hin.1 hin.2.1
  have h2 : atK a x.k = x.v := by unfold atK; rw [find_asc (asc_of ha) hx]
  rw [h2] at h1
  unfold atK at h1
  split at h1
  · rename_i e he
    have hk := List.find?_some he
    simp at hk
    have hm := List.mem_of_find?_eq_some he
    obtain ⟨k1, v1⟩ := x; obtain ⟨k2, v2⟩ := e
    simp at hk h1; subst hk; subst h1; exact hm
  · omega
theorem ents_perm_eq {a b : List Ent} (ha : a.Pairwise fun x y => x.k < y.k) (hb : b.Pairwise fun x y => x.k < y.k) (h : ∀ x, x ∈ a ↔ x ∈ b) : a = b := by
  have na : a.Nodup := ha.imp fun {x y} hxy e => by subst e; omega
  have nb : b.Nodup := hb.imp fun {x y} hxy e => by subst e; omega
  have hp : a.Perm b := (List.perm_ext_iff_of_nodup na nb).2 h
  exact List.Perm.eq_of_pairwise (le := fun x y : Ent => x.k < y.k) (fun x y _ _ h1 h2 => by omega) ha hb hp
theorem sto_ext {a b : List Ent} (ha : entsOk 1 a = true) (hb : entsOk 1 b = true) (h : ∀ key : Int, 0 ≤ key → key ≤ 31 → atK a key = atK b key) : a = b :=
  ents_perm_eq (asc_of ha) (asc_of hb) fun _ => ⟨fun hx => sto_mem ha hb h hx, fun hx => sto_mem hb ha (fun k h0 h1 => (h k h0 h1).symm) hx⟩
/-! ### Values as a store, and back -/
def valsIn (v : List Int) : Prop := v.length = 32 ∧ ∀ x ∈ v, 0 ≤ x ∧ x ≤ 1000000
theorem stTo_mem {v : List Int} {x : Ent} : ∀ {k : Nat}, x ∈ stTo v k ↔ ∃ i : Nat, i < k ∧ 0 < v.getD i 0 ∧ x = ⟨(i : Int), v.getD i 0⟩
  | 0 => by simp [stTo]
  | k + 1 => by
    rw [stTo, List.mem_append, stTo_mem (k := k)]
    constructor
    · rintro (⟨i, h1, h2⟩ | h)
      · exact ⟨i, by omega, h2⟩
      · split at h
        · rename_i hp; simp at h; exact ⟨k, by omega, hp, h⟩
        · simp at h
    · rintro ⟨i, h1, h2, h3⟩
      by_cases hik : i = k
      · subst hik; right; rw [if_pos h2]; simpa using h3
      · left; exact ⟨i, by omega, h2, h3⟩
theorem stTo_asc (v : List Int) : ∀ k, (stTo v k).Pairwise fun a b => a.k < b.k
  | 0 => by simp [stTo]
  | k + 1 => by
    rw [stTo, List.pairwise_append]
    refine ⟨stTo_asc v k, by split <;> simp, fun a ha b hb => ?_⟩
    obtain ⟨i, h1, _, rfl⟩ := stTo_mem.1 ha
    split at hb
    · simp at hb; subst hb; show (i : Int) < (k : Int); omega
    · simp at hb
theorem valsIn_get {v : List Int} (h : valsIn v) (n : Nat) : 0 ≤ v.getD n 0 ∧ v.getD n 0 ≤ 1000000 := by
  by_cases hn : n < v.length
  · have e : v.getD n 0 = v[n] := by simp [List.getD, hn]
    rw [e]; exact h.2 _ (by simp)
  · have e : v.getD n 0 = 0 := by simp [List.getD, hn]
    rw [e]; omega
theorem storeOf_ok {v : List Int} (h : valsIn v) : entsOk 1 (storeOf v) = true := by
  refine entsOk_of (stTo_asc v 32) fun x hx => ?_
  obtain ⟨i, h1, h2, rfl⟩ := stTo_mem.1 hx
  have := valsIn_get h i
  exact ⟨by show (0 : Int) ≤ (i : Int); omega, by show (i : Int) ≤ 31; omega, by show (1 : Int) ≤ v.getD i 0; omega, this.2⟩
theorem atK_storeOf {v : List Int} (h : valsIn v) {n : Nat} (hn : n < 32) : atK (storeOf v) n = v.getD n 0 := by
  by_cases hp : 0 < v.getD n 0
  · have hm : (⟨(n : Int), v.getD n 0⟩ : Ent) ∈ storeOf v := stTo_mem.2 ⟨n, hn, hp, rfl⟩
    have := find_asc (stTo_asc v 32) hm
    show atK (stTo v 32) n = _
    unfold atK
    rw [show (stTo v 32).find? (fun e => e.k == (n : Int)) = some ⟨(n : Int), v.getD n 0⟩ from this]
  · have h0 := valsIn_get h n
    have hnone : (stTo v 32).find? (fun e => e.k == (n : Int)) = none := by
      rw [List.find?_eq_none]
      intro x hx
      obtain ⟨i, _, h2, rfl⟩ := stTo_mem.1 hx
      simp only [beq_iff_eq]
      intro e
      have : i = n := by have : (i : Int) = (n : Int) := e; omega
      subst this; exact hp h2
    show atK (stTo v 32) n = _
    unfold atK; rw [hnone]; show (0 : Int) = _; omega
theorem valsOf_getD {least : Int} {l : List Ent} (h : entsOk least l = true) {n : Nat} (hn : n < 32) : (valsOf l).getD n 0 = atK l n := by
  simp [List.getD, valsOf_get h hn]
theorem valsOf_in {l : List Ent} (h : entsOk 0 l = true) : valsIn (valsOf l) := by
  refine ⟨valsOf_length l, fun x hx => ?_⟩
  obtain ⟨i, hi⟩ := List.getElem?_of_mem hx
  have hlt : i < 32 := by have := (List.getElem?_eq_some_iff.1 hi).1; rw [valsOf_length] at this; exact this
  rw [valsOf_get h hlt] at hi
  cases hi
  exact atK_in h (by omega) _
theorem storeOf_valsOf {l : List Ent} (h : entsOk 1 l = true) : storeOf (valsOf l) = l := by
  have hv := valsOf_in (entsOk_least (by decide) h)
  refine sto_ext (storeOf_ok hv) h fun key k0 k1 => ?_
  have := atK_storeOf hv (n := key.toNat) (by omega)
  rw [show ((key.toNat : Nat) : Int) = key from by omega] at this
  rw [this, valsOf_getD h (by omega), show ((key.toNat : Nat) : Int) = key from by omega]
theorem valsOf_storeOf {v : List Int} (h : valsIn v) : valsOf (storeOf v) = v := by
  apply List.ext_getElem?
  intro n
  by_cases hn : n < 32
  · rw [valsOf_get (storeOf_ok h) hn, atK_storeOf h hn]
    have : n < v.length := by rw [h.1]; exact hn
    simp [List.getD, this]
  · rw [List.getElem?_eq_none (by rw [valsOf_length]; omega), List.getElem?_eq_none (by rw [h.1]; omega)]
theorem valsIn_set {v : List Int} (h : valsIn v) {n : Nat} {x : Int} (hx : 0 ≤ x ∧ x ≤ 1000000) : valsIn (v.set n x) := by
  refine ⟨by rw [List.length_set]; exact h.1, fun y hy => ?_⟩
  rcases List.mem_or_eq_of_mem_set hy with h1 | h1
  · exact h.2 y h1
  · subst h1; exact hx
theorem valsIn_vsets {l : List Ent} (hl : ∀ x ∈ l, 0 ≤ x.v ∧ x.v ≤ 1000000) : ∀ {v : List Int}, valsIn v → valsIn (vsets v l) := by
  induction l with
  | nil => intro v h; exact h
  | cons e l ih => intro v h; exact ih (fun x hx => hl x (by simp [hx])) (valsIn_set h (hl e (by simp)))
/-- What the reference puts into a store is what the program sets in the values. -/
theorem putF_store {v : List Int} (h : valsIn v) {e : Ent} (k0 : 0 ≤ e.k) (k1 : e.k ≤ 31) (v0 : 0 ≤ e.v) (v1 : e.v ≤ 1000000) : putF (decide (e.v = 0)) e.k e.v (storeOf v) = storeOf (vset v e) := by
  have hs := storeOf_ok h
  have hv2 : valsIn (vset v e) := valsIn_set h ⟨v0, v1⟩
  rw [putF_asc (asc_of hs)]
  refine sto_ext (putS_ok hs k0 k1 fun hp => ?_) (storeOf_ok hv2) fun key h0 h1 => ?_
  · simp at hp; omega
  · rw [atK_putS (fun hp => by simpa using hp)]
    have h2 := atK_storeOf hv2 (n := key.toNat) (by omega)
    have h3 := atK_storeOf h (n := key.toNat) (by omega)
    rw [show ((key.toNat : Nat) : Int) = key from by omega] at h2 h3
    rw [h2, h3]
    have hl : key.toNat < v.length := by rw [h.1]; omega
    have hg := vset_get (v := v) (e := e) k0 hl
    by_cases hk : key = e.k
    · rw [if_pos hk]
      rw [if_pos (by omega)] at hg
      simp [List.getD, hg]
    · rw [if_neg hk]
      rw [if_neg (by omega)] at hg
      simp [List.getD, hg]
end Go.Proofs.Yteiemjebdhmnaaa
namespace Go.Proofs.Yteiemjebdhmnaaa
open Go Go.RowKit

/-- out = append(out, x), x's cells in the block that was made last. -/
theorem wpList_push1 {P : Program} {t e sz bytes : Nat} (F : AppFacts P t e sz bytes) {ops : Array Oper} {rest : List Oper} {o : Oper} {a : Act} {Q : Exit → Act → World → Prop} (hgd : o.guard = none) (s x : Operand)
    (ho : o.op = .call { callee := .builtin .append, args := #[s, x], argTypes := #[t, t] }) {α : Type} (enc : α → List Value) (Wb : World) {W1 : World} {cs : Array Value} {e' : TypeId} (y : α) (l : List α) {v : Value} (hs : a.eval s = v)
    (hown : Own enc e sz Wb.heap.size W1 v l) (hE : Ext Wb W1) {g : Nat} (hx : a.eval x = .slice (some ⟨g, 0, none⟩) 1 1) (hg : g = W1.heap.size) (hcs : cs.toList = enc y) (hl : (enc y).length = sz)
    (h1 : ∀ u ∈ enc y, u.oneCell' = true) (hb : (l.length + 1) * bytes ≤ 140737488355328) (hb' : l.length + 1 ≤ 9223372036854775807)
    (h : ∀ v' (z1 : Extd Wb), Own enc e sz Wb.heap.size z1.val v' (l ++ [y]) → wpList P ops Q rest (a.put o.dst v') z1.val) : wpList P ops Q (o :: rest) a (W1.alloc (.cells cs e')) := by
  subst hg
  refine wpList_push F hgd s x ho enc Wb y l hs (hown.up ((Ext.refl _).alloc _)) (hE.alloc _) hx hl (fun j u hu => ?_) h1 hb hb' h
  have e1 : (⟨W1.heap.size, 0, none⟩ : Addr).add j = ⟨W1.heap.size, j, none⟩ := by unfold Addr.add; split <;> simp_all
  rw [e1, cell_of_row _ W1.heap.size j cs e' (0, 0) (heap_alloc_new W1 _), ← Array.getElem?_toList, hcs]
  exact hu
theorem Own.kept {α : Type} {enc : α → List Value} {e sz lo : Nat} {w w' : World} {v : Value} {l : List α} {row : Option Nat} (h : Own enc e sz lo w v l) (hg : w.grownBy w' row) (hne : v.ownBlock = none ∨ v.ownBlock ≠ row) : Own enc e sz lo w' v l := World.ownsRow.kept h hg hne
/-- Of two slices the one was there before the other was begun: they share no block. -/
theorem Own.apart {α β : Type} {enc : α → List Value} {enc' : β → List Value} {e sz lo e' sz' lo' : Nat} {w w' : World} {v v' : Value} {l : List α} {l' : List β} (h : Own enc e sz lo w v l) (h' : Own enc' e' sz' lo' w' v' l') (hlt : w.heap.size ≤ lo') : v.ownBlock ≠ v'.ownBlock ∨ v.ownBlock = none := by
  cases hv : v.ownBlock with
  | none => exact .inr rfl
  | some k =>
    left
    intro e
    have h1 := (World.ownsRow.lt h k hv).2
    have h2 := (World.ownsRow.lt h' k e.symm).1
    omega
theorem Own.after {α β : Type} {enc : α → List Value} {enc' : β → List Value} {e sz lo e' sz' lo' : Nat} {w w' : World} {v v' : Value} {l : List α} {l' : List β} (h : Own enc e sz lo w v l) (h' : Own enc' e' sz' lo' w' v' l') (hlt : w'.heap.size ≤ lo) : v.ownBlock = none ∨ v.ownBlock ≠ v'.ownBlock := by
  cases hv : v.ownBlock with
  | none => exact .inl rfl
  | some k =>
    right
    intro e
    have h1 := (World.ownsRow.lt h k hv).1
    have h2 := (World.ownsRow.lt h' k e.symm).2
    omega
theorem Own.ext_grown {α : Type} {enc : α → List Value} {e sz lo : Nat} {a w w' : World} {v : Value} {l : List α} (h : Own enc e sz lo w v l) (hE : Ext a w) (hlo : a.heap.size ≤ lo) (hg : w.grownBy w' v.ownBlock) : Ext a w' :=
  hE.grown hg (fun k hk => Nat.le_trans hlo (World.ownsRow.lt h k hk).1)
theorem oneV (x : Ver) : ∀ u ∈ x.enc, u.oneCell' = true := by simp [Ver.enc, Value.oneCell']
theorem oneE (x : Ent) : ∀ u ∈ x.enc, u.oneCell' = true := by simp [Ent.enc, Value.oneCell']
theorem oneA (x : Actn) : ∀ u ∈ x.enc, u.oneCell' = true := by simp [Actn.enc, Value.oneCell']
theorem oneI (x : Int) : ∀ u ∈ encI x, u.oneCell' = true := by simp [encI, Value.oneCell']
end Go.Proofs.Yteiemjebdhmnaaa
namespace Go.Proofs.Yteiemjebdhmnaaa
open Go Go.RowKit

theorem summed_iff {l : List Int} : summed l = true ↔ ∀ n ∈ l, 0 ≤ n ∧ n ≤ 2000000 := by simp [summed, inR_iff]
theorem summed_at {l : List Int} (h : summed l = true) {k : Nat} {n : Int} (hn : l[k]? = some n) : 0 ≤ n ∧ n ≤ 2000000 := summed_iff.1 h n (List.mem_of_getElem? hn)
theorem sumOf_yes {tag : Int} {l : List Int} (h0 : 0 ≤ tag) (h9 : tag ≤ 9) (h : summed l = true) : sumOf tag l = sumL (17 + tag) l := by
  unfold sumOf; rw [if_pos (by simp [h, inR]; omega)]
theorem sumOf_no {tag : Int} {l : List Int} (h : summed l = false) : sumOf tag l = -1 := by unfold sumOf; rw [if_neg (by simp [h])]
theorem sumOf_tag {tag : Int} {l : List Int} (h : inR tag 0 9 = false) : sumOf tag l = -1 := by unfold sumOf; rw [if_neg (by simp [h])]
theorem sumTo_in {tag : Int} (h0 : 0 ≤ tag) (h9 : tag ≤ 9) (l : List Int) : 0 ≤ sumL (17 + tag) l ∧ sumL (17 + tag) l < 1000003 := sumL_in (by omega) (by omega) l
def aNums (l : List Actn) : List Int := l.flatMap fun x => [x.kind, x.src, x.dst, x.amt]
theorem aNums_snoc {l : List Actn} {k : Nat} {x : Actn} (h : l[k]? = some x) : aNums (l.take (k + 1)) = aNums (l.take k) ++ [x.kind, x.src, x.dst, x.amt] := by
  rw [List.take_add_one, h]; simp [aNums]
theorem aNums_length (l : List Actn) : (aNums l).length = 4 * l.length := by
  induction l with
  | nil => rfl
  | cons x l ih => simp [aNums, List.flatMap_cons] at *; omega
theorem Actn.ok_kind {x : Actn} (h : x.ok = true) : 1 ≤ x.kind ∧ x.kind ≤ 6 := by
  simp only [Actn.ok, Bool.and_eq_true] at h
  have := h.2.2.2
  unfold kindOk at this
  split at this
  · omega
  · split at this
    · omega
    · simp at this; omega
theorem aNums_summed {l : List Actn} (h : ∀ x ∈ l, x.ok = true) : summed (aNums l) = true := by
  rw [summed_iff]
  intro n hn
  simp only [aNums, List.mem_flatMap] at hn
  obtain ⟨x, hx, hn⟩ := hn
  have h1 := h x hx
  have h2 := Actn.ok_kind h1
  simp only [Actn.ok, Bool.and_eq_true, inR_iff] at h1
  simp at hn
  omega
theorem summed_append {a b : List Int} (h : summed a = true) (h' : summed b = true) : summed (a ++ b) = true := by
  rw [summed_iff] at *; intro n hn; rcases List.mem_append.1 hn with h1 | h1
  · exact h n h1
  · exact h' n h1
/-- append of several elements just built. -/
theorem wpList_pushL {P : Program} {t e sz bytes : Nat} (F : AppFacts P t e sz bytes) {ops : Array Oper} {rest : List Oper} {o : Oper} {a : Act} {Q : Exit → Act → World → Prop} (hgd : o.guard = none) (s x : Operand)
    (ho : o.op = .call { callee := .builtin .append, args := #[s, x], argTypes := #[t, t] }) {α : Type} (enc : α → List Value) (he : ∀ x, (enc x).length = sz) (Wb : World) {W1 : World} {cs : Array Value} {e' : TypeId} (ys : List α) (l : List α) {v : Value} (hs : a.eval s = v)
    (hown : Own enc e sz Wb.heap.size W1 v l) (hE : Ext Wb W1) {g m c : Nat} (hx : a.eval x = .slice (some ⟨g, 0, none⟩) m c) (hm : m = ys.length) (hg : g = W1.heap.size) (hcs : cs.toList = ys.flatMap enc)
    (h1 : ∀ u ∈ ys.flatMap enc, u.oneCell' = true) (hb : (l.length + ys.length) * bytes ≤ 140737488355328) (hb' : l.length + ys.length ≤ 9223372036854775807)
    (h : ∀ v' (z1 : Extd Wb), Own enc e sz Wb.heap.size z1.val v' (l ++ ys) → wpList P ops Q rest (a.put o.dst v') z1.val) : wpList P ops Q (o :: rest) a (W1.alloc (.cells cs e')) := by
  subst hg; subst hm
  obtain ⟨i, z, hi, hz, hsize, hby, hzs⟩ := F.info
  have hown' : (W1.alloc (.cells cs e')).ownsRow Wb.heap.size e sz v l.length (l.flatMap enc) := hown.up ((Ext.refl _).alloc _)
  have hE' := hE.alloc (.cells cs e')
  refine wpList_append_own _ hgd s x t ho Wb.heap.size e i z sz bytes F.und hi hz hsize hby hzs F.pos v l.length (l.flatMap enc) hs hown' ⟨W1.heap.size, 0, none⟩ ys.length c (ys.flatMap enc) hx (flatMap_length he ys) (fun j u hu => ?_) h1 (by simpa [maxLen] using hb') hb hE'.size ?_
  · have e1 : (⟨W1.heap.size, 0, none⟩ : Addr).add j = ⟨W1.heap.size, j, none⟩ := by unfold Addr.add; split <;> simp_all
    rw [e1, cell_of_row _ W1.heap.size j cs e' (0, 0) (heap_alloc_new W1 _), ← Array.getElem?_toList, hcs]
    exact hu
  · intro v' w1 hown1 hg1 _
    refine h v' ⟨w1, hE'.grown hg1 fun k hk => (World.ownsRow.lt hown' k hk).1⟩ ?_
    show w1.ownsRow _ _ _ _ _ _
    simpa [Own] using hown1
/-- .. in a region that draws its order. -/
theorem step_pushL {P : Program} {t e sz bytes : Nat} (F : AppFacts P t e sz bytes) {ops : Array Oper} {o : Oper} {a : Act} {K : Act → World → Prop} {Q : Exit → Act → World → Prop} {E : Prop} (hgd : o.guard = none) (s x : Operand)
    (ho : o.op = .call { callee := .builtin .append, args := #[s, x], argTypes := #[t, t] }) {α : Type} (enc : α → List Value) (he : ∀ x, (enc x).length = sz) (Wb : World) {W1 : World} {cs : Array Value} {e' : TypeId} (ys : List α) (l : List α) {v : Value} (hs : a.eval s = v)
    (hown : Own enc e sz Wb.heap.size W1 v l) (hE : Ext Wb W1) {g m c : Nat} (hx : a.eval x = .slice (some ⟨g, 0, none⟩) m c) (hm : m = ys.length) (hm0 : 0 < m) (hg : g = W1.heap.size) (hcs : cs.toList = ys.flatMap enc)
    (h1 : ∀ u ∈ ys.flatMap enc, u.oneCell' = true) (hb : (l.length + ys.length) * bytes ≤ 140737488355328) (hb' : l.length + ys.length ≤ 9223372036854775807)
    (h : ∀ v' (z1 : Extd Wb), Own enc e sz Wb.heap.size z1.val v' (l ++ ys) → K (a.put o.dst v') z1.val) :
    if Region.wanted o (yielded ops a.tmps) = true then Oper.wp P o a (W1.alloc (.cells cs e')).drew K Q else E := by
  subst hg; subst hm
  obtain ⟨i, z, hi, hz, hsize, hby, hzs⟩ := F.info
  have hown' : (W1.alloc (.cells cs e')).drew.ownsRow Wb.heap.size e sz v l.length (l.flatMap enc) := hown.up ((Ext.refl _).alloc _).drew
  have hE' := (hE.alloc (.cells cs e')).drew
  refine step_append_lies _ hgd s x t ho Wb.heap.size e i z sz bytes F.und hi hz hsize hby hzs F.pos v l.length (l.flatMap enc) hs hown' ⟨W1.heap.size, 0, none⟩ ys.length c (ys.flatMap enc) hx (flatMap_length he ys) (fun j u hu => ?_) h1 hm0 (by simpa [maxLen] using hb') hb hE'.size _ rfl ?_
  · have e1 : (⟨W1.heap.size, 0, none⟩ : Addr).add j = ⟨W1.heap.size, j, none⟩ := by unfold Addr.add; split <;> simp_all
    rw [e1, cell_of_row (W1.alloc (.cells cs e')).drew W1.heap.size j cs e' (0, 0) (heap_alloc_new W1 _), ← Array.getElem?_toList, hcs]
    exact hu
  · intro g cap w1 hown1 hg1 _ _
    refine h _ ⟨w1, hE'.grown hg1 fun k hk => (World.ownsRow.lt hown' k hk).1⟩ ?_
    show w1.ownsRow _ _ _ _ _ _
    simpa [Own] using hown1
theorem oneIs (l : List Int) : ∀ u ∈ l.flatMap encI, u.oneCell' = true := by
  intro u hu
  obtain ⟨x, _, h⟩ := List.mem_flatMap.1 hu
  exact oneI x u h
end Go.Proofs.Yteiemjebdhmnaaa
namespace Go.Proofs.Yteiemjebdhmnaaa
open Go Go.RowKit

/-- Two slices share no block. -/
def Apart (v v' : Value) : Prop := v.ownBlock = none ∨ v.ownBlock ≠ v'.ownBlock
theorem Apart.symm {v v' : Value} (h : Apart v v') : Apart v' v := by
  unfold Apart at *
  cases hv : v'.ownBlock with
  | none => exact .inl rfl
  | some k =>
    right
    rcases h with h | h
    · rw [h]; simp
    · rw [hv] at h; exact fun e => h e.symm
theorem Apart.nil (v : Value) (n c : Nat) : Apart (.slice none n c) v := .inl rfl
theorem Apart.nil' (v : Value) (n c : Nat) : Apart v (.slice none n c) := (Apart.nil v n c).symm
/-- What was grown keeps what lies apart. -/
theorem Own.keep {α : Type} {enc : α → List Value} {e sz lo : Nat} {w w' : World} {v v0 : Value} {l : List α} (h : Own enc e sz lo w v l) (hg : w.grownBy w' v0.ownBlock) (ha : Apart v v0) : Own enc e sz lo w' v l := Own.kept h hg ha
/-- A slice that was there lies apart from what an append gives, if it lay apart from what was appended to. -/
theorem Apart.grown {α : Type} {enc : α → List Value} {e sz lo : Nat} {w : World} {v v0 v1 : Value} {l : List α} (h : Own enc e sz lo w v l) (ha : Apart v v0) {n : Nat} (hn : w.heap.size ≤ n) (hb : v1.ownBlock = v0.ownBlock ∨ v1.ownBlock = some n) : Apart v v1 := by
  unfold Apart at *
  rcases hb with hb | hb
  · rw [hb]; exact ha
  · cases hv : v.ownBlock with
    | none => exact .inl rfl
    | some k =>
      right; rw [hb]; intro e
      have := (World.ownsRow.lt h k hv).2
      simp only [Option.some.injEq] at e
      omega
/-- A slice made new lies apart from what was there. -/
theorem Apart.lit {α : Type} {enc : α → List Value} {e sz lo : Nat} {w : World} {v : Value} {l : List α} (h : Own enc e sz lo w v l) {g n c : Nat} (hg : w.heap.size ≤ g) : Apart v (.slice (some ⟨g, 0, none⟩) n c) := by
  unfold Apart
  cases hv : v.ownBlock with
  | none => exact .inl rfl
  | some k =>
    right; intro e
    have := (World.ownsRow.lt h k hv).2
    have e' : k = g := by simpa [Value.ownBlock] using e
    omega
theorem wpList_pushG {P : Program} {t e sz bytes : Nat} (F : AppFacts P t e sz bytes) {ops : Array Oper} {rest : List Oper} {o : Oper} {a : Act} {Q : Exit → Act → World → Prop} (hgd : o.guard = none) (s x : Operand)
    (ho : o.op = .call { callee := .builtin .append, args := #[s, x], argTypes := #[t, t] }) {α : Type} (enc : α → List Value) (he : ∀ x, (enc x).length = sz) (Wb : World) {lo : Nat} {W1 : World} {cs : Array Value} {e' : TypeId} (ys : List α) (l : List α) {v : Value} (hs : a.eval s = v)
    (hown : Own enc e sz lo W1 v l) (hE : Ext Wb W1) (hlo : Wb.heap.size ≤ lo) (hlo' : lo ≤ W1.heap.size) {g m c : Nat} (hx : a.eval x = .slice (some ⟨g, 0, none⟩) m c) (hm : m = ys.length) (hg : g = W1.heap.size) (hcs : cs.toList = ys.flatMap enc)
    (h1 : ∀ u ∈ ys.flatMap enc, u.oneCell' = true) (hb : (l.length + ys.length) * bytes ≤ 140737488355328) (hb' : l.length + ys.length ≤ 9223372036854775807)
    (h : ∀ v' (z1 : Extd Wb), Own enc e sz lo z1.val v' (l ++ ys) → (W1.alloc (.cells cs e')).grownBy z1.val v.ownBlock → (v'.ownBlock = v.ownBlock ∨ v'.ownBlock = some (W1.alloc (.cells cs e')).heap.size) → wpList P ops Q rest (a.put o.dst v') z1.val) : wpList P ops Q (o :: rest) a (W1.alloc (.cells cs e')) := by
  subst hg; subst hm
  obtain ⟨i, z, hi, hz, hsize, hby, hzs⟩ := F.info
  have hown' : (W1.alloc (.cells cs e')).ownsRow lo e sz v l.length (l.flatMap enc) := hown.up ((Ext.refl _).alloc _)
  have hE' := hE.alloc (.cells cs e')
  refine wpList_append_own_at _ hgd s x t ho lo e i z sz bytes F.und hi hz hsize hby hzs F.pos v l.length (l.flatMap enc) hs hown' ⟨W1.heap.size, 0, none⟩ ys.length c (ys.flatMap enc) hx (flatMap_length he ys) (fun j u hu => ?_) h1 (by simpa [maxLen] using hb') hb (by simp; omega) ?_
  · have e1 : (⟨W1.heap.size, 0, none⟩ : Addr).add j = ⟨W1.heap.size, j, none⟩ := by unfold Addr.add; split <;> simp_all
    rw [e1, cell_of_row _ W1.heap.size j cs e' (0, 0) (heap_alloc_new W1 _), ← Array.getElem?_toList, hcs]
    exact hu
  · intro v' w1 hown1 hg1 _ hblk
    refine h v' ⟨w1, hE'.grown hg1 fun k hk => Nat.le_trans hlo (World.ownsRow.lt hown' k hk).1⟩ ?_ hg1 hblk
    show w1.ownsRow _ _ _ _ _ _
    simpa [Own] using hown1
/-- .. in a region that draws its order: at whatever world that holds the new elements in block g. -/
theorem step_pushG {P : Program} {t e sz bytes : Nat} (F : AppFacts P t e sz bytes) {ops : Array Oper} {o : Oper} {a : Act} {K : Act → World → Prop} {Q : Exit → Act → World → Prop} {E : Prop} (hgd : o.guard = none) (s x : Operand)
    (ho : o.op = .call { callee := .builtin .append, args := #[s, x], argTypes := #[t, t] }) {α : Type} (enc : α → List Value) (he : ∀ x, (enc x).length = sz) (Wb : World) {lo : Nat} {W : World} {cs : Array Value} {e' : TypeId} {fr : Nat × Nat} (ys : List α) (l : List α) {v : Value} (hs : a.eval s = v)
    {g m c : Nat} (hx : a.eval x = .slice (some ⟨g, 0, none⟩) m c) (hg : W.heap[g]? = some (.cells cs e' fr)) (hown : Own enc e sz lo W v l) (hE : Ext Wb W) (hlo : Wb.heap.size ≤ lo) (hlo' : lo ≤ W.heap.size) (hm : m = ys.length) (hm0 : 0 < m) (hcs : cs.toList = ys.flatMap enc)
    (h1 : ∀ u ∈ ys.flatMap enc, u.oneCell' = true) (hb : (l.length + ys.length) * bytes ≤ 140737488355328) (hb' : l.length + ys.length ≤ 9223372036854775807)
    (h : ∀ v' (z1 : Extd Wb), Own enc e sz lo z1.val v' (l ++ ys) → W.grownBy z1.val v.ownBlock → (v'.ownBlock = v.ownBlock ∨ v'.ownBlock = some W.heap.size) → K (a.put o.dst v') z1.val) :
    if Region.wanted o (yielded ops a.tmps) = true then Oper.wp P o a W K Q else E := by
  subst hm
  obtain ⟨i, z, hi, hz, hsize, hby, hzs⟩ := F.info
  refine step_append_lies _ hgd s x t ho lo e i z sz bytes F.und hi hz hsize hby hzs F.pos v l.length (l.flatMap enc) hs hown ⟨g, 0, none⟩ ys.length c (ys.flatMap enc) hx (flatMap_length he ys) (fun j u hu => ?_) h1 hm0 (by simpa [maxLen] using hb') hb hlo' _ rfl ?_
  · have e1 : (⟨g, 0, none⟩ : Addr).add j = ⟨g, j, none⟩ := by unfold Addr.add; split <;> simp_all
    rw [e1, cell_of_row W g j cs e' fr hg, ← Array.getElem?_toList, hcs]
    exact hu
  · intro g cap w1 hown1 hg1 hblk _
    refine h _ ⟨w1, hE.grown hg1 fun k hk => Nat.le_trans hlo (World.ownsRow.lt hown k hk).1⟩ ?_ hg1 ?_
    · show w1.ownsRow _ _ _ _ _ _
      simpa [Own] using hown1
    · rcases hblk with hb1 | hb1
      · left; rw [hb1]; rfl
      · right; rw [hb1]; rfl
/-- Slices as elements. -/
def encV (v : Value) : List Value := [v]
theorem encV_length (v : Value) : (encV v).length = 1 := rfl
theorem Own.cellI {e lo g off n c : Nat} {w : World} {l : List Int} (h : Own encI e 1 lo w (.slice (some ⟨g, off, none⟩) n c) l) {j : Nat} {a : Int} (ha : l[j]? = some a) : w.cell? ⟨g, off + j, none⟩ = some (.int .i64 a) := by
  obtain ⟨p9, c9, e9, _, hc9⟩ := (h.sl encI_length).open
  cases e9
  obtain ⟨g4, off4, hp4, _, hca⟩ := hc9 j a ha
  cases hp4
  have := hca 0 _ rfl; simpa using this
/-- s[i:i+m]. -/
theorem SL.sub {α : Type} {R : World → List Value → α → Prop} {sz : Nat} {w : World} {b off n cap : Nat} {l : List α} (h : SL R sz w (.slice (some ⟨b, off, none⟩) n cap) l) {i m : Nat} (hi : i + m ≤ l.length) {cap' : Nat} (hc : m ≤ cap') : SL R sz w (.slice (some ⟨b, off + i * sz, none⟩) m cap') ((l.drop i).take m) := by
  obtain ⟨a', c', hv, hl, hcells⟩ := h
  cases hv
  have e : ((l.drop i).take m).length = m := by rw [List.length_take, List.length_drop]; omega
  refine ⟨_, cap', by rw [e], ⟨by rw [e]; omega, by rw [e]; exact hc⟩, fun hne => ?_⟩
  obtain ⟨b', off', ha, hb, hx⟩ := hcells (by intro e0; subst e0; simp at hne)
  cases ha
  refine ⟨b, off + i * sz, rfl, hb, fun j x hj => ?_⟩
  have hjm : j < m := by have := (List.getElem?_eq_some_iff.1 hj).1; omega
  rw [List.getElem?_take_of_lt hjm, List.getElem?_drop] at hj
  obtain ⟨cs, h1, h2, h3⟩ := hx _ x hj
  refine ⟨cs, h1, fun q u hu => ?_, h3⟩
  have := h2 q u hu
  rwa [Nat.add_mul, ← Nat.add_assoc] at this
end Go.Proofs.Yteiemjebdhmnaaa
namespace Go.Proofs.Yteiemjebdhmnaaa
open Go Go.RowKit Go.Proofs
theorem in_any (n lo hi : Int) (w : World) : Calls Try.prog 60 #[.int .i64 n, .int .i64 lo, .int .i64 hi] w fun e w' => e = .returned (.bool (inR n lo hi)) ∧ w = w' := by
  unfold inR
  by_cases h : lo ≤ n
  · go_enter Try.func60, Try.ntmps60
    go_wp2
    go_ret; exact ⟨by simp [h], rfl⟩
  · have h' : decide (lo ≤ n) = false := by simpa using h
    go_enter Try.func60, Try.ntmps60
    go_wp2
    go_ret; exact ⟨by simp, rfl⟩
theorem l1In_any (n lo hi : Int) (w : World) : Calls Try.prog 36 #[.int .i64 n, .int .i64 lo, .int .i64 hi] w fun e w' => e = .returned (.bool (inR n lo hi)) ∧ w = w' := by
  unfold inR
  by_cases h : lo ≤ n
  · go_enter Try.func36, Try.ntmps36
    go_wp2
    go_ret; exact ⟨by simp [h], rfl⟩
  · have h' : decide (lo ≤ n) = false := by simpa using h
    go_enter Try.func36, Try.ntmps36
    go_wp2
    go_ret; exact ⟨by simp, rfl⟩
theorem isKey_any (n : Int) (w : World) : Calls Try.prog 103 #[.int .i64 n] w fun e w' => e = .returned (.bool (inR n 0 31)) ∧ w = w' := by
  go_enter Try.func103, Try.ntmps103
  go_wp2_with (go_at_call 60; refine (in_any _ _ _ _).mono ?_; rintro e w' ⟨rfl, rfl⟩)
  go_ret
  exact ⟨rfl, rfl⟩
theorem isValue_any (n : Int) (w : World) : Calls Try.prog 104 #[.int .i64 n] w fun e w' => e = .returned (.bool (inR n 0 1000000)) ∧ w = w' := by
  go_enter Try.func104, Try.ntmps104
  go_wp2_with (go_at_call 60; refine (in_any _ _ _ _).mono ?_; rintro e w' ⟨rfl, rfl⟩)
  go_ret
  exact ⟨rfl, rfl⟩
theorem isSum_any (n : Int) (w : World) : Calls Try.prog 80 #[.int .i64 n] w fun e w' => e = .returned (.bool (inR n 0 1000002)) ∧ w = w' := by
  go_enter Try.func80, Try.ntmps80
  go_wp2_with (go_at_call 60; refine (in_any _ _ _ _).mono ?_; rintro e w' ⟨rfl, rfl⟩)
  go_ret
  exact ⟨rfl, rfl⟩
theorem isView_any (n : Int) (w : World) : Calls Try.prog 81 #[.int .i64 n] w fun e w' => e = .returned (.bool (inR n 0 1000)) ∧ w = w' := by
  go_enter Try.func81, Try.ntmps81
  go_wp2_with (go_at_call 60; refine (in_any _ _ _ _).mono ?_; rintro e w' ⟨rfl, rfl⟩)
  go_ret
  exact ⟨rfl, rfl⟩
theorem isSummed_any (n : Int) (w : World) : Calls Try.prog 71 #[.int .i64 n] w fun e w' => e = .returned (.bool (inR n 0 2000000)) ∧ w = w' := by
  go_enter Try.func71, Try.ntmps71
  go_wp2_with (go_at_call 60; refine (in_any _ _ _ _).mono ?_; rintro e w' ⟨rfl, rfl⟩)
  go_ret
  exact ⟨rfl, rfl⟩
end Go.Proofs.Yteiemjebdhmnaaa
