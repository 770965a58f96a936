/- Plain laws: actions: which keys they read and write; masks of keys. Plain laws: a store with another value; values back to a store; effects. Walks: stores on the reference's side; versions that are read. Walks: FnExactReadVersion: which value an action reads. Walks: FnExactLastVersions: the store that remains. -/
import Derived.Test.YtnknamddonjnjaaGEoVTop00
import Derived.Test.YtnknamddonjnjaaGEoVTop02
import Derived.Test.YtnknamddonjnjaaGEoVTop01
set_option linter.unusedSimpArgs false
set_option linter.unusedVariables false
namespace Go.Proofs.Ytnknamddonjnjaa
open Go Go.RowKit

def kindOk (kind dst amt : Int) : Bool := if kind = 1 ∨ kind = 6 then decide (dst = 0) else if kind = 3 ∨ kind = 4 ∨ kind = 5 then decide (amt = 0) else decide (kind = 2)
def Actn.ok (x : Actn) : Bool := inR x.src 0 31 && (inR x.dst 0 31 && (inR x.amt 0 1000000 && kindOk x.kind x.dst x.amt))
/-- The keys that an action reads. -/
def Actn.rk (x : Actn) : List Int := if x.kind = 1 then [] else if x.kind = 3 ∨ x.kind = 6 ∨ x.src = x.dst then [x.src] else [x.src, x.dst]
/-- The keys that it may write. -/
def Actn.wk (x : Actn) : List Int := if x.kind = 1 ∨ x.kind = 6 then [x.src] else if x.kind = 3 ∨ x.kind = 5 ∨ x.src = x.dst then [x.dst] else [min x.src x.dst, max x.src x.dst]
theorem kinds (k : Int) : k = 1 ∨ k = 2 ∨ k = 3 ∨ k = 4 ∨ k = 5 ∨ k = 6 ∨ (k ≠ 1 ∧ k ≠ 2 ∧ k ≠ 3 ∧ k ≠ 4 ∧ k ≠ 5 ∧ k ≠ 6) := by omega
theorem Actn.rk_in {x : Actn} (h : x.ok = true) : ∀ n ∈ x.rk, 0 ≤ n ∧ n ≤ 31 := by
  simp only [Actn.ok, Bool.and_eq_true, inR_iff] at h
  obtain ⟨⟨h1, h2⟩, ⟨h3, h4⟩, _⟩ := h
  intro n hn
  unfold Actn.rk at hn
  split at hn
  · simp at hn
  · split at hn <;> simp at hn
    · omega
    · rcases hn with rfl | rfl <;> omega
theorem Actn.wk_in {x : Actn} (h : x.ok = true) : ∀ n ∈ x.wk, 0 ≤ n ∧ n ≤ 31 := by
  simp only [Actn.ok, Bool.and_eq_true, inR_iff] at h
  obtain ⟨⟨h1, h2⟩, ⟨h3, h4⟩, _⟩ := h
  intro n hn
  unfold Actn.wk at hn
  split at hn
  · simp at hn; omega
  · split at hn <;> simp at hn
    · omega
    · rcases hn with rfl | rfl <;> omega
theorem Actn.rk_le (x : Actn) : x.rk.length ≤ 2 := by unfold Actn.rk; split <;> (try split) <;> simp
theorem Actn.wk_le (x : Actn) : x.wk.length ≤ 2 := by unfold Actn.wk; split <;> (try split) <;> simp

/-- Keys as bits. -/
def maskN (l : List Int) : Nat := l.foldl (fun m k => m ||| 2 ^ k.toNat) 0
theorem maskN_snoc (l : List Int) (k : Int) : maskN (l ++ [k]) = maskN l ||| 2 ^ k.toNat := by simp [maskN]
theorem maskN_lt (l : List Int) (h : ∀ n ∈ l, 0 ≤ n ∧ n ≤ 31) : maskN l < 4294967296 := by
  have key : ∀ (l : List Int) (m : Nat), m < 2 ^ 32 → (∀ n ∈ l, 0 ≤ n ∧ n ≤ 31) → l.foldl (fun m k => m ||| 2 ^ k.toNat) m < 2 ^ 32 := by
    intro l
    induction l with
    | nil => intro m hm _; simpa using hm
    | cons k l ih =>
      intro m hm h
      simp only [List.foldl_cons]
      refine ih _ (Nat.or_lt_two_pow hm ?_) (fun n hn => h n (by simp [hn]))
      have := h k (by simp)
      exact Nat.pow_lt_pow_right (by decide) (by omega)
  exact key l 0 (by decide) h
theorem maskN_bit (l : List Int) (i : Nat) (h : ∀ n ∈ l, 0 ≤ n) : (maskN l).testBit i = decide ((i : Int) ∈ l) := by
  have key : ∀ (l : List Int) (m : Nat), (∀ n ∈ l, 0 ≤ n) → (l.foldl (fun m k => m ||| 2 ^ k.toNat) m).testBit i = (m.testBit i || decide ((i : Int) ∈ l)) := by
    intro l
    induction l with
    | nil => intro m _; simp
    | cons k l ih =>
      intro m h
      simp only [List.foldl_cons]
      rw [ih _ (fun n hn => h n (by simp [hn])), Nat.testBit_or, Nat.testBit_two_pow]
      have := h k (by simp)
      have e : decide (k.toNat = i) = decide ((i : Int) = k) := by rw [Bool.eq_iff_iff]; simp; omega
      rw [e, Bool.or_assoc]
      simp
  have := key l 0 h
  simpa [maskN] using this
/-- A key of both. -/
def common (a b : List Int) : Bool := a.any fun x => b.contains x
theorem maskN_and {a b : List Int} (ha : ∀ n ∈ a, 0 ≤ n) (hb : ∀ n ∈ b, 0 ≤ n) : (maskN a &&& maskN b ≠ 0) ↔ common a b = true := by
  constructor
  · intro h
    obtain ⟨i, hi⟩ := Nat.exists_testBit_of_ne_zero h
    rw [Nat.testBit_and, maskN_bit a i ha, maskN_bit b i hb] at hi
    simp at hi
    simp only [common, List.any_eq_true]
    exact ⟨i, hi.1, by simpa using hi.2⟩
  · intro h
    simp only [common, List.any_eq_true] at h
    obtain ⟨x, hx, hy⟩ := h
    have h0 := ha x hx
    have e : (x.toNat : Int) = x := by omega
    intro hz
    have h1 : (maskN a &&& maskN b).testBit x.toNat = true := by
      rw [Nat.testBit_and, maskN_bit a _ ha, maskN_bit b _ hb, e]
      simp at hy
      simp [hx, hy]
    rw [hz] at h1
    simp at h1
/-- Two actions that may not change their order. -/
def conf (a b : Actn) : Bool := common a.wk b.wk || (common a.wk b.rk || common a.rk b.wk)
def conflict (a b : Actn) : Bool := a.ok && (b.ok && conf a b)
end Go.Proofs.Ytnknamddonjnjaa
namespace Go.Proofs.Ytnknamddonjnjaa
open Go Go.RowKit

/-! ### One value more -/
def putStep (key v : Int) (p : List Ent × Bool) (e : Ent) : List Ent × Bool :=
  (p.1 ++ (if (!p.2 && decide (key ≤ e.k)) = true then [⟨key, v⟩] else []) ++ (if e.k ≠ key then [e] else []), p.2 || decide (key ≤ e.k))
def putTo2 (p0 : Bool) (key v : Int) (l : List Ent) : List Ent × Bool := l.foldl (putStep key v) ([], p0)
def putF (p0 : Bool) (key v : Int) (l : List Ent) : List Ent := if (putTo2 p0 key v l).2 = true then (putTo2 p0 key v l).1 else (putTo2 p0 key v l).1 ++ [⟨key, v⟩]
theorem putTo2_snoc (p0 : Bool) (key v : Int) {l : List Ent} {k : Nat} {x : Ent} (h : l[k]? = some x) : putTo2 p0 key v (l.take (k + 1)) = putStep key v (putTo2 p0 key v (l.take k)) x := by
  rw [List.take_add_one, h]; simp [putTo2]
theorem putTo2_le (p0 : Bool) (key v : Int) (l : List Ent) : (putTo2 p0 key v l).1.length ≤ 2 * l.length := by
  have key' : ∀ (l : List Ent) (p : List Ent × Bool), (l.foldl (putStep key v) p).1.length ≤ p.1.length + 2 * l.length := by
    intro l
    induction l with
    | nil => intro p; simp
    | cons e l ih =>
      intro p
      have := ih (putStep key v p e)
      have h2 : (putStep key v p e).1.length ≤ p.1.length + 2 := by
        unfold putStep
        dsimp only
        rw [List.length_append, List.length_append]
        split <;> split <;> simp <;> omega
      simp only [List.foldl_cons, List.length_cons] at *; omega
  have := key' l ([], p0)
  simpa [putTo2] using this
theorem foldl_placed (key v : Int) : ∀ (l : List Ent) (acc : List Ent), l.foldl (putStep key v) (acc, true) = (acc ++ l.filter (fun e => decide (e.k ≠ key)), true)
  | [], acc => by simp
  | e :: l, acc => by
    rw [List.foldl_cons]
    by_cases h : e.k = key
    · have : putStep key v (acc, true) e = (acc, true) := by simp [putStep, h]
      rw [this, foldl_placed key v l acc]; simp [h]
    · have : putStep key v (acc, true) e = (acc ++ [e], true) := by simp [putStep, h]
      rw [this, foldl_placed key v l (acc ++ [e])]; simp [h]
/-- In a list of ascending keys. -/
def putS (key v : Int) (put : Bool) (l : List Ent) : List Ent := l.filter (fun e => decide (e.k < key)) ++ (if put = true then [⟨key, v⟩] else []) ++ l.filter (fun e => decide (key < e.k))
theorem filter_ne {key : Int} : ∀ {l : List Ent}, l.Pairwise (fun a b => a.k < b.k) → l.filter (fun e => decide (e.k ≠ key)) = l.filter (fun e => decide (e.k < key)) ++ l.filter (fun e => decide (key < e.k))
  | [], _ => rfl
  | e :: l, h => by
    rw [List.pairwise_cons] at h
    have ih := filter_ne (key := key) h.2
    by_cases h1 : e.k < key
    · have h2 : e.k ≠ key := by omega
      have h3 : ¬ key < e.k := by omega
      simp only [List.filter_cons, h1, h2, h3, decide_true, decide_false, if_true, ne_eq, not_false_eq_true, Bool.false_eq_true, if_false, List.cons_append, ih]
    · have hnone : l.filter (fun e => decide (e.k < key)) = [] := by
        rw [List.filter_eq_nil_iff]; intro x hx; have := h.1 x hx; simp; omega
      rw [hnone, List.nil_append] at ih
      by_cases h2 : e.k = key
      · have h3 : ¬ key < e.k := by omega
        simp only [List.filter_cons, h1, h2, h3, decide_true, decide_false, if_true, ne_eq, not_true_eq_false, Bool.false_eq_true, if_false, ih, hnone, List.nil_append]
        simp [h2]
      · have h3 : key < e.k := by omega
        simp only [List.filter_cons, h1, h2, h3, decide_true, decide_false, if_true, ne_eq, not_false_eq_true, Bool.false_eq_true, if_false, ih, hnone, List.nil_append]
theorem putF_asc {key v : Int} {l : List Ent} (h : l.Pairwise fun a b => a.k < b.k) (p0 : Bool) : putF p0 key v l = putS key v (!p0) l := by
  cases p0 with
  | true =>
    unfold putF putTo2
    rw [foldl_placed]
    simp only [if_true, List.nil_append, putS, Bool.not_true, Bool.false_eq_true, if_false, List.append_nil]
    exact filter_ne h
  | false =>
    have key' : ∀ (l acc : List Ent), l.Pairwise (fun a b => a.k < b.k) → (let r := l.foldl (putStep key v) (acc, false); if r.2 = true then r.1 else r.1 ++ [⟨key, v⟩]) = acc ++ putS key v true l := by
      intro l
      induction l with
      | nil => intro acc _; simp [putS]
      | cons e l ih =>
        intro acc h
        rw [List.pairwise_cons] at h
        by_cases h1 : e.k < key
        · have e1 : putStep key v (acc, false) e = (acc ++ [e], false) := by
            have h2 : ¬ key ≤ e.k := by omega
            have h3 : e.k ≠ key := by omega
            simp [putStep, h2, h3]
          have h3 : ¬ key < e.k := by omega
          have := ih (acc ++ [e]) h.2
          rw [List.foldl_cons, e1, this]
          simp [putS, h1, h3]
        · have hnone : l.filter (fun e => decide (e.k < key)) = [] := by
            rw [List.filter_eq_nil_iff]; intro x hx; have := h.1 x hx; simp; omega
          have hall : l.filter (fun e => decide (key < e.k)) = l := by
            rw [List.filter_eq_self]; intro x hx; have := h.1 x hx; simp; omega
          have hall' : l.filter (fun e => decide (e.k ≠ key)) = l := by
            rw [List.filter_eq_self]; intro x hx; have := h.1 x hx; simp; omega
          have e1 : putStep key v (acc, false) e = (acc ++ [⟨key, v⟩] ++ (if e.k ≠ key then [e] else []), true) := by
            have h2 : key ≤ e.k := by omega
            simp [putStep, h2]
          rw [List.foldl_cons, e1, foldl_placed, hall']
          by_cases h2 : e.k = key
          · have h3 : ¬ key < e.k := by omega
            simp only [putS, List.filter_cons, h1, h3, hnone, hall, if_true, decide_false, Bool.false_eq_true, if_false, List.nil_append, h2, ne_eq, not_true_eq_false, List.append_nil]
            simp
          · have h3 : key < e.k := by omega
            simp only [putS, List.filter_cons, h1, h3, hnone, hall, if_true, decide_false, decide_true, Bool.false_eq_true, if_false, List.nil_append, h2, ne_eq, not_false_eq_true]
            simp
    have h1 := key' l [] h
    rw [List.nil_append] at h1
    exact h1
/-! ### Lists of ascending keys by their values -/
theorem atK_append (a b : List Ent) (key : Int) : atK (a ++ b) key = match a.find? (fun e => e.k == key) with | some e => e.v | none => atK b key := by
  unfold atK
  rw [List.find?_append]
  cases a.find? (fun e => e.k == key) <;> rfl
theorem find_filter_ne {l : List Ent} {p : Ent → Bool} {key : Int} (h : ∀ e, e.k = key → p e = false) : (l.filter p).find? (fun e => e.k == key) = none := by
  rw [List.find?_eq_none]
  intro e he
  rw [List.mem_filter] at he
  simp only [beq_iff_eq]
  intro hk
  rw [h e hk] at he; exact absurd he.2 (by simp)
theorem find_filter_eq {l : List Ent} {p : Ent → Bool} {key : Int} (h : ∀ e, e.k = key → p e = true) : (l.filter p).find? (fun e => e.k == key) = l.find? (fun e => e.k == key) := by
  rw [List.find?_filter]
  congr 1
  funext e
  by_cases hk : e.k = key
  · simp [hk, h e hk]
  · simp [hk]
theorem atK_putS {key v : Int} {put : Bool} {l : List Ent} (hv : put = false → v = 0) (n : Int) : atK (putS key v put l) n = if n = key then v else atK l n := by
  unfold putS
  rw [atK_append, List.find?_append]
  by_cases h : n = key
  · subst h
    rw [find_filter_ne (fun e he => by simp; omega), Option.none_or, if_pos rfl]
    cases put with
    | true => simp
    | false =>
      simp only [Bool.false_eq_true, if_false, List.find?_nil]
      rw [hv rfl]
      unfold atK
      rw [find_filter_ne (fun e he => by simp; omega)]
  · rw [if_neg h]
    have hm : (if put = true then [(⟨key, v⟩ : Ent)] else []).find? (fun e => e.k == n) = none := by
      split
      · simp; omega
      · rfl
    rw [hm, Option.or_none]
    by_cases h1 : n < key
    · rw [find_filter_eq (fun e he => by simp; omega)]
      have : atK (l.filter fun e => decide (key < e.k)) n = 0 := by unfold atK; rw [find_filter_ne (fun e he => by simp; omega)]
      rw [this]
      unfold atK
      cases l.find? (fun e => e.k == n) <;> rfl
    · rw [find_filter_ne (fun e he => by simp; omega)]
      unfold atK
      simp only
      rw [find_filter_eq (fun e he => by simp; omega)]
theorem entsOk_of {least : Int} {l : List Ent} (hs : l.Pairwise fun a b => a.k < b.k) (hin : ∀ x ∈ l, 0 ≤ x.k ∧ x.k ≤ 31 ∧ least ≤ x.v ∧ x.v ≤ 1000000) : entsOk least l = true := by
  refine upTo_iff.2 fun i hi => ?_
  obtain ⟨x, hx⟩ := getElem?_some_of_lt hi
  have h1 := hin x (List.mem_of_getElem? hx)
  have h2 : (inR x.k 0 31 && inR x.v least 1000000) = true := by simp only [Bool.and_eq_true, inR_iff]; omega
  by_cases h0 : 0 < i
  · obtain ⟨y, hy⟩ := getElem?_some_of_lt (show i - 1 < l.length by omega)
    rw [entAt_next hx h0 hy, h2, Bool.true_and, decide_eq_true_eq]
    obtain ⟨hi1, hi2⟩ := List.getElem?_eq_some_iff.1 hx
    obtain ⟨hj1, hj2⟩ := List.getElem?_eq_some_iff.1 hy
    rw [List.pairwise_iff_getElem] at hs
    have := hs (i - 1) i hj1 hi1 (by omega)
    rw [hi2, hj2] at this; exact this
  · rw [entAt_first hx h0, h2]
theorem putS_ok {least : Int} {key v : Int} {put : Bool} {l : List Ent} (h : entsOk least l = true) (k0 : 0 ≤ key) (k1 : key ≤ 31) (hv : put = true → least ≤ v ∧ v ≤ 1000000) : entsOk least (putS key v put l) = true := by
  have hs := asc_of h
  refine entsOk_of ?_ fun x hx => ?_
  · unfold putS
    rw [List.pairwise_append, List.pairwise_append]
    refine ⟨⟨hs.filter _, ?_, fun a ha b hb => ?_⟩, hs.filter _, fun a ha b hb => ?_⟩
    · split <;> simp
    · have := (List.mem_filter.1 ha).2
      split at hb
      · simp at hb this; subst hb; exact this
      · simp at hb
    · have h2 := (List.mem_filter.1 hb).2
      simp at h2
      rcases List.mem_append.1 ha with ha | ha
      · have := (List.mem_filter.1 ha).2; simp at this; omega
      · split at ha
        · simp at ha; subst ha; exact h2
        · simp at ha
  · unfold putS at hx
    rcases List.mem_append.1 hx with hx | hx
    · rcases List.mem_append.1 hx with hx | hx
      · exact entsOk_mem h (List.mem_filter.1 hx).1
      · split at hx
        · rename_i hp
          simp at hx; subst hx
          have := hv hp
          exact ⟨k0, k1, this.1, this.2⟩
        · simp at hx
    · exact entsOk_mem h (List.mem_filter.1 hx).1
/-- Stores with the same values are the same. -/
theorem find_asc {l : List Ent} (hs : l.Pairwise fun a b => a.k < b.k) {x : Ent} (hx : x ∈ l) : l.find? (fun e => e.k == x.k) = some x := by
  induction l with
  | nil => cases hx
  | cons a l ih =>
    rw [List.pairwise_cons] at hs
    rw [List.find?_cons]
    rcases List.mem_cons.1 hx with rfl | hx
    · simp
    · have := hs.1 x hx
      have hne : (a.k == x.k) = false := by simp; omega
      simp only [hne]
      exact ih hs.2 hx
theorem sto_mem {a b : List Ent} (ha : entsOk 1 a = true) (hb : entsOk 1 b = true) (h : ∀ key : Int, 0 ≤ key → key ≤ 31 → atK a key = atK b key) {x : Ent} (hx : x ∈ a) : x ∈ b := by
  have hin := entsOk_mem ha hx
  have h1 := h x.k hin.1 hin.2.1
  have h2 : atK a x.k = x.v := by unfold atK; rw [find_asc (asc_of ha) hx]
  rw [h2] at h1
  unfold atK at h1
  split at h1
  · rename_i e he
    have hk := List.find?_some he
    simp at hk
    have hm := List.mem_of_find?_eq_some he
    obtain ⟨k1, v1⟩ := x; obtain ⟨k2, v2⟩ := e
    simp at hk h1; subst hk; subst h1; exact hm
  · omega
theorem ents_perm_eq {a b : List Ent} (ha : a.Pairwise fun x y => x.k < y.k) (hb : b.Pairwise fun x y => x.k < y.k) (h : ∀ x, x ∈ a ↔ x ∈ b) : a = b := by
  have na : a.Nodup := ha.imp fun {x y} hxy e => by subst e; omega
  have nb : b.Nodup := hb.imp fun {x y} hxy e => by subst e; omega
  have hp : a.Perm b := (List.perm_ext_iff_of_nodup na nb).2 h
  exact List.Perm.eq_of_pairwise (le := fun x y : Ent => x.k < y.k) (fun x y _ _ h1 h2 => by omega) ha hb hp
theorem sto_ext {a b : List Ent} (ha : entsOk 1 a = true) (hb : entsOk 1 b = true) (h : ∀ key : Int, 0 ≤ key → key ≤ 31 → atK a key = atK b key) : a = b :=
  ents_perm_eq (asc_of ha) (asc_of hb) fun _ => ⟨fun hx => sto_mem ha hb h hx, fun hx => sto_mem hb ha (fun k h0 h1 => (h k h0 h1).symm) hx⟩
/-! ### Values as a store, and back -/
def valsIn (v : List Int) : Prop := v.length = 32 ∧ ∀ x ∈ v, 0 ≤ x ∧ x ≤ 1000000
theorem stTo_mem {v : List Int} {x : Ent} : ∀ {k : Nat}, x ∈ stTo v k ↔ ∃ i : Nat, i < k ∧ 0 < v.getD i 0 ∧ x = ⟨(i : Int), v.getD i 0⟩
  | 0 => by simp [stTo]
  | k + 1 => by
    rw [stTo, List.mem_append, stTo_mem (k := k)]
    constructor
    · rintro (⟨i, h1, h2⟩ | h)
      · exact ⟨i, by omega, h2⟩
      · split at h
        · rename_i hp; simp at h; exact ⟨k, by omega, hp, h⟩
        · simp at h
    · rintro ⟨i, h1, h2, h3⟩
      by_cases hik : i = k
      · subst hik; right; rw [if_pos h2]; simpa using h3
      · left; exact ⟨i, by omega, h2, h3⟩
theorem stTo_asc (v : List Int) : ∀ k, (stTo v k).Pairwise fun a b => a.k < b.k
  | 0 => by simp [stTo]
  | k + 1 => by
    rw [stTo, List.pairwise_append]
    refine ⟨stTo_asc v k, by split <;> simp, fun a ha b hb => ?_⟩
    obtain ⟨i, h1, _, rfl⟩ := stTo_mem.1 ha
    split at hb
    · simp at hb; subst hb; show (i : Int) < (k : Int); omega
    · simp at hb
theorem valsIn_get {v : List Int} (h : valsIn v) (n : Nat) : 0 ≤ v.getD n 0 ∧ v.getD n 0 ≤ 1000000 := by
  by_cases hn : n < v.length
  · have e : v.getD n 0 = v[n] := by simp [List.getD, hn]
    rw [e]; exact h.2 _ (by simp)
  · have e : v.getD n 0 = 0 := by simp [List.getD, hn]
    rw [e]; omega
theorem storeOf_ok {v : List Int} (h : valsIn v) : entsOk 1 (storeOf v) = true := by
  refine entsOk_of (stTo_asc v 32) fun x hx => ?_
  obtain ⟨i, h1, h2, rfl⟩ := stTo_mem.1 hx
  have := valsIn_get h i
  exact ⟨by show (0 : Int) ≤ (i : Int); omega, by show (i : Int) ≤ 31; omega, by show (1 : Int) ≤ v.getD i 0; omega, this.2⟩
theorem atK_storeOf {v : List Int} (h : valsIn v) {n : Nat} (hn : n < 32) : atK (storeOf v) n = v.getD n 0 := by
  by_cases hp : 0 < v.getD n 0
  · have hm : (⟨(n : Int), v.getD n 0⟩ : Ent) ∈ storeOf v := stTo_mem.2 ⟨n, hn, hp, rfl⟩
    have := find_asc (stTo_asc v 32) hm
    show atK (stTo v 32) n = _
    unfold atK
    rw [show (stTo v 32).find? (fun e => e.k == (n : Int)) = some ⟨(n : Int), v.getD n 0⟩ from this]
  · have h0 := valsIn_get h n
    have hnone : (stTo v 32).find? (fun e => e.k == (n : Int)) = none := by
      rw [List.find?_eq_none]
      intro x hx
      obtain ⟨i, _, h2, rfl⟩ := stTo_mem.1 hx
      simp only [beq_iff_eq]
      intro e
      have : i = n := by have : (i : Int) = (n : Int) := e; omega
      subst this; exact hp h2
    show atK (stTo v 32) n = _
    unfold atK; rw [hnone]; show (0 : Int) = _; omega
theorem valsOf_getD {least : Int} {l : List Ent} (h : entsOk least l = true) {n : Nat} (hn : n < 32) : (valsOf l).getD n 0 = atK l n := by
  simp [List.getD, valsOf_get h hn]
theorem valsOf_in {l : List Ent} (h : entsOk 0 l = true) : valsIn (valsOf l) := by
  refine ⟨valsOf_length l, fun x hx => ?_⟩
  obtain ⟨i, hi⟩ := List.getElem?_of_mem hx
  have hlt : i < 32 := by have := (List.getElem?_eq_some_iff.1 hi).1; rw [valsOf_length] at this; exact this
  rw [valsOf_get h hlt] at hi
  cases hi
  exact atK_in h (by omega) _
theorem storeOf_valsOf {l : List Ent} (h : entsOk 1 l = true) : storeOf (valsOf l) = l := by
  have hv := valsOf_in (entsOk_least (by decide) h)
  refine sto_ext (storeOf_ok hv) h fun key k0 k1 => ?_
  have := atK_storeOf hv (n := key.toNat) (by omega)
  rw [show ((key.toNat : Nat) : Int) = key from by omega] at this
  rw [this, valsOf_getD h (by omega), show ((key.toNat : Nat) : Int) = key from by omega]
theorem valsOf_storeOf {v : List Int} (h : valsIn v) : valsOf (storeOf v) = v := by
  apply List.ext_getElem?
  intro n
  by_cases hn : n < 32
  · rw [valsOf_get (storeOf_ok h) hn, atK_storeOf h hn]
    have : n < v.length := by rw [h.1]; exact hn
    simp [List.getD, this]
  · rw [List.getElem?_eq_none (by rw [valsOf_length]; omega), List.getElem?_eq_none (by rw [h.1]; omega)]
theorem valsIn_set {v : List Int} (h : valsIn v) {n : Nat} {x : Int} (hx : 0 ≤ x ∧ x ≤ 1000000) : valsIn (v.set n x) := by
  refine ⟨by rw [List.length_set]; exact h.1, fun y hy => ?_⟩
  rcases List.mem_or_eq_of_mem_set hy with h1 | h1
  · exact h.2 y h1
  · subst h1; exact hx
theorem valsIn_vsets {l : List Ent} (hl : ∀ x ∈ l, 0 ≤ x.v ∧ x.v ≤ 1000000) : ∀ {v : List Int}, valsIn v → valsIn (vsets v l) := by
  induction l with
  | nil => intro v h; exact h
  | cons e l ih => intro v h; exact ih (fun x hx => hl x (by simp [hx])) (valsIn_set h (hl e (by simp)))
/-- What the reference puts into a store is what the program sets in the values. -/
theorem putF_store {v : List Int} (h : valsIn v) {e : Ent} (k0 : 0 ≤ e.k) (k1 : e.k ≤ 31) (v0 : 0 ≤ e.v) (v1 : e.v ≤ 1000000) : putF (decide (e.v = 0)) e.k e.v (storeOf v) = storeOf (vset v e) := by
  have hs := storeOf_ok h
  have hv2 : valsIn (vset v e) := valsIn_set h ⟨v0, v1⟩
  rw [putF_asc (asc_of hs)]
  refine sto_ext (putS_ok hs k0 k1 fun hp => ?_) (storeOf_ok hv2) fun key h0 h1 => ?_
  · simp at hp; omega
  · rw [atK_putS (fun hp => by simpa using hp)]
    have h2 := atK_storeOf hv2 (n := key.toNat) (by omega)
    have h3 := atK_storeOf h (n := key.toNat) (by omega)
    rw [show ((key.toNat : Nat) : Int) = key from by omega] at h2 h3
    rw [h2, h3]
    have hl : key.toNat < v.length := by rw [h.1]; omega
    have hg := vset_get (v := v) (e := e) k0 hl
    by_cases hk : key = e.k
    · rw [if_pos hk]
      rw [if_pos (by omega)] at hg
      simp [List.getD, hg]
    · rw [if_neg hk]
      rw [if_neg (by omega)] at hg
      simp [List.getD, hg]
end Go.Proofs.Ytnknamddonjnjaa
namespace Go.Proofs.Ytnknamddonjnjaa
open Go Go.RowKit Go.Proofs

set_option maxHeartbeats 2000000 in
theorem sStoreValid_any (l : List Ent) (v : Value) (w : World) (h : SL (RF Ent.enc) 2 w v l) :
    Calls Try.prog 20 #[v] w fun e w' => e = .returned (.bool (entsOk 1 l)) ∧ Up w w' := by
  obtain ⟨a, cap, rfl, hlen, hc⟩ := h.open
  clear h
  go_enter Try.func20, Try.ntmps20
  go_wp2_with fail
  go_loopw [3] (fun s3 wr => ∃ k : Nat, s3 = .int .i64 k ∧ k ≤ l.length ∧ upTo (entAt 1 l) k = true ∧ Up w wr) (fun s3 _ => l.length - (intOf s3).toNat)
  case atStart => exact ⟨0, rfl, Nat.zero_le _, rfl, .of (Ext.refl _)⟩
  case round =>
    obtain ⟨k, rfl, hk, hall, z, rfl⟩ := hrel
    by_cases hlt : k < l.length
    · obtain ⟨x, hxk⟩ := getElem?_some_of_lt hlt
      obtain ⟨b, off, rfl, hb, hcc⟩ := hc k x hxk
      have c0 : w.cell? ⟨b, off + k * 2, none⟩ = some (.int .i64 x.k) := hcc 0 _ rfl
      have c1 : w.cell? ⟨b, off + k * 2 + 1, none⟩ = some (.int .i64 x.v) := hcc 1 _ rfl
      have kk : (0 : Int) ≤ (k : Int) := by omega
      have kl : (k : Int) < l.length := by omega
      clear hcc
      by_cases h0 : 0 < k
      · obtain ⟨y, hyk⟩ := getElem?_some_of_lt (show k - 1 < l.length by omega)
        obtain ⟨b', off', hbo, _, hdd⟩ := hc (k - 1) y hyk
        simp only [Option.some.injEq, Addr.mk.injEq, and_true] at hbo
        obtain ⟨rfl, rfl⟩ := hbo
        have d0 : w.cell? ⟨b, off + (k - 1) * 2, none⟩ = some (.int .i64 y.k) := hdd 0 _ rfl
        have Hall := Lib.hid hall; have Hat := Lib.hid (entAt_next (least := 1) hxk h0 hyk)
        have k0 : decide ((0 : Int) < (k : Int)) = true := by simpa using h0
        have ks : IntKind.i64.wrap ((k : Int) - 1) = ((k - 1 : Nat) : Int) := by rw [IntWalk.i64_in _ (by omega)]; omega
        have ks0 : (0 : Int) ≤ (k : Int) - 1 := by omega
        have ks1 : (k : Int) - 1 < l.length := by omega
        have ks2 : ((k : Int) - 1).toNat = k - 1 := by omega
        clear hc hdd hxk hall hyk
        rcases guards2 (inR x.k 0 31) (inR x.v 1 1000000) with h1 | ⟨h1, h2⟩ | ⟨h1, h2⟩
        case inr.inr =>
          by_cases g : y.k < x.k
          · have g' : decide (x.k ≤ y.k) = false := by simpa using g
            go_wp2_with fail
            (refine wp_region_up (by kernel_rfl) (by kernel_rfl) ?_; (repeat (go_big_quiet_step ((go_at_call 49; exact Calls.up_same (l1In_any _ _ _ _))))); refine wpQuiet_nil ?_; intro _ hw'; obtain ⟨zq, hw''⟩ := hw'; subst hw'')
            go_wp2_with fail
            go_roundw
            case rel => exact ⟨k + 1, by go_num, by omega, upTo_succ Hall.out (by rw [Hat.out, h1, h2]; simpa using g), (.of (by repeat (first | exact Ext.refl _ | refine Ext.up ?_ _ | refine Ext.alloc ?_ _ | refine Ext.drew ?_ | refine Ext.setRow ?_ (by first | (dsimp only; omega) | exact LeS.le | exact LeS.add _ | (simp; done) | (simp; omega)) _ | refine Ext.setCell ?_ (by first | (dsimp only; omega) | exact LeS.le | exact LeS.add _ | (simp; done) | (simp; omega)) _)))⟩
            case measure => simp [intOf]; omega
          · have g' : decide (x.k ≤ y.k) = true := by simpa using g
            go_wp2_with fail
            (refine wp_region_up (by kernel_rfl) (by kernel_rfl) ?_; (repeat (go_big_quiet_step ((go_at_call 49; exact Calls.up_same (l1In_any _ _ _ _))))); refine wpQuiet_nil ?_; intro _ hw'; obtain ⟨zq, hw''⟩ := hw'; subst hw'')
            go_wp2_with fail
            go_ret
            refine ⟨?_, (.of (by repeat (first | exact Ext.refl _ | refine Ext.up ?_ _ | refine Ext.alloc ?_ _ | refine Ext.drew ?_ | refine Ext.setRow ?_ (by first | (dsimp only; omega) | exact LeS.le | exact LeS.add _ | (simp; done) | (simp; omega)) _ | refine Ext.setCell ?_ (by first | (dsimp only; omega) | exact LeS.le | exact LeS.add _ | (simp; done) | (simp; omega)) _)))⟩
            show Ending.returned (.bool false) = _
            rw [entsOk, upTo_false hlt (by rw [Hat.out, h1, h2]; simpa using g)]
        all_goals
          go_wp2_with fail
          (refine wp_region_up (by kernel_rfl) (by kernel_rfl) ?_; (repeat (go_big_quiet_step ((go_at_call 49; exact Calls.up_same (l1In_any _ _ _ _))))); refine wpQuiet_nil ?_; intro _ hw'; obtain ⟨zq, hw''⟩ := hw'; subst hw'')
          go_wp2_with fail
          go_ret
          refine ⟨?_, (.of (by repeat (first | exact Ext.refl _ | refine Ext.up ?_ _ | refine Ext.alloc ?_ _ | refine Ext.drew ?_ | refine Ext.setRow ?_ (by first | (dsimp only; omega) | exact LeS.le | exact LeS.add _ | (simp; done) | (simp; omega)) _ | refine Ext.setCell ?_ (by first | (dsimp only; omega) | exact LeS.le | exact LeS.add _ | (simp; done) | (simp; omega)) _)))⟩
          show Ending.returned (.bool false) = _
          rw [entsOk, upTo_false hlt (by rw [Hat.out]; simp [*])]
      · have Hall := Lib.hid hall; have Hat := Lib.hid (entAt_first (least := 1) hxk h0)
        have k0 : decide ((0 : Int) < (k : Int)) = false := by simpa using h0
        clear hc hxk hall
        rcases guards2 (inR x.k 0 31) (inR x.v 1 1000000) with h1 | ⟨h1, h2⟩ | ⟨h1, h2⟩
        case inr.inr =>
          go_wp2_with fail
          (refine wp_region_up (by kernel_rfl) (by kernel_rfl) ?_; (repeat (go_big_quiet_step ((go_at_call 49; exact Calls.up_same (l1In_any _ _ _ _))))); refine wpQuiet_nil ?_; intro _ hw'; obtain ⟨zq, hw''⟩ := hw'; subst hw'')
          go_wp2_with fail
          go_roundw
          case rel => exact ⟨k + 1, by go_num, by omega, upTo_succ Hall.out (by rw [Hat.out, h1, h2]; rfl), (.of (by repeat (first | exact Ext.refl _ | refine Ext.up ?_ _ | refine Ext.alloc ?_ _ | refine Ext.drew ?_ | refine Ext.setRow ?_ (by first | (dsimp only; omega) | exact LeS.le | exact LeS.add _ | (simp; done) | (simp; omega)) _ | refine Ext.setCell ?_ (by first | (dsimp only; omega) | exact LeS.le | exact LeS.add _ | (simp; done) | (simp; omega)) _)))⟩
          case measure => simp [intOf]; omega
        all_goals
          go_wp2_with fail
          (refine wp_region_up (by kernel_rfl) (by kernel_rfl) ?_; (repeat (go_big_quiet_step ((go_at_call 49; exact Calls.up_same (l1In_any _ _ _ _))))); refine wpQuiet_nil ?_; intro _ hw'; obtain ⟨zq, hw''⟩ := hw'; subst hw'')
          go_wp2_with fail
          go_ret
          refine ⟨?_, (.of (by repeat (first | exact Ext.refl _ | refine Ext.up ?_ _ | refine Ext.alloc ?_ _ | refine Ext.drew ?_ | refine Ext.setRow ?_ (by first | (dsimp only; omega) | exact LeS.le | exact LeS.add _ | (simp; done) | (simp; omega)) _ | refine Ext.setCell ?_ (by first | (dsimp only; omega) | exact LeS.le | exact LeS.add _ | (simp; done) | (simp; omega)) _)))⟩
          show Ending.returned (.bool false) = _
          rw [entsOk, upTo_false hlt (by rw [Hat.out]; simp [*])]
    · go_wp2_with fail
      go_ret
      obtain rfl : k = l.length := by omega
      refine ⟨?_, z, rfl⟩; show Ending.returned (.bool true) = _; rw [entsOk, hall]
set_option maxHeartbeats 1000000 in
theorem l2At_any (l : List Ent) (v : Value) (key : Int) (w : World) (h : SL (RF Ent.enc) 2 w v l) :
    Calls Try.prog 79 #[v, .int .i64 key] w fun e w' => e = .returned (.int .i64 (atK l key)) ∧ w = w' := by
  obtain ⟨a, cap, rfl, hlen, hc⟩ := h.open
  clear h
  go_enter Try.func79, Try.ntmps79
  go_wp2_with fail
  go_loop [5] (fun s5 => ∃ k : Nat, s5 = .int .i64 k ∧ k ≤ l.length ∧ noK l key k = true) (fun s5 => l.length - (intOf s5).toNat)
  case atStart => exact ⟨0, rfl, Nat.zero_le _, rfl⟩
  case round =>
    obtain ⟨k, rfl, hk, hall⟩ := hrel
    by_cases hlt : k < l.length
    · obtain ⟨x, hxk⟩ := getElem?_some_of_lt hlt
      obtain ⟨b, off, rfl, hb, hcc⟩ := hc k x hxk
      have c0 : w.cell? ⟨b, off + k * 2, none⟩ = some (.int .i64 x.k) := hcc 0 _ rfl
      have c1 : w.cell? ⟨b, off + k * 2 + 1, none⟩ = some (.int .i64 x.v) := hcc 1 _ rfl
      have Hx := Lib.hid hxk; have Hall := Lib.hid hall
      clear hcc hc hxk hall
      rcases ne_cases x.k key with ⟨h1, _⟩ | ⟨h1, _⟩
      · have h1' : (x.k == key) = false := by simpa using h1
        go_wp2_with fail
        go_round
        case rel => exact ⟨k + 1, by go_num, by omega, noK_next Hall.out Hx.out h1⟩
        case measure => simp [intOf]; omega
      · have h1' : (x.k == key) = true := by simpa using h1
        have H1 := Lib.hid h1; clear h1
        go_wp2_with fail
        go_ret
        exact ⟨by rw [atK_found Hall.out Hx.out H1.out]; rfl, rfl⟩
    · go_wp2_with fail
      go_ret
      obtain rfl : k = l.length := by omega
      exact ⟨by rw [atK_none hall]; rfl, rfl⟩
set_option maxHeartbeats 1000000 in
theorem l9Read_any (s : List Ent) (l : List Ver) (u v : Value) (key by_ : Int) (w : World) (hs : SL (RF Ent.enc) 2 w u s) (h : SL (RF Ver.enc) 3 w v l) :
    Calls Try.prog 55 #[u, v, .int .i64 key, .int .i64 by_] w fun e w' => e = .returned (.tuple #[.int .i64 (readV (atK s key) l key by_).1, .int .i64 (readV (atK s key) l key by_).2]) ∧ w = w' := by
  obtain ⟨a, cap, rfl, hlen, hc⟩ := h.open
  have Hs := Lib.hid hs
  clear h hs
  go_enter Try.func55, Try.ntmps55
  go_wp2_with (go_at_call 79; refine (l2At_any s _ _ _ Hs.out).mono ?_; rintro e w' ⟨rfl, rfl⟩)
  go_loop [10, 11, 12] (fun s10 s11 s12 => ∃ k : Nat, s12 = .int .i64 k ∧ s10 = .int .i64 (readV (atK s key) (l.take k) key by_).1 ∧ s11 = .int .i64 (readV (atK s key) (l.take k) key by_).2 ∧ k ≤ l.length) (fun _ _ s12 => l.length - (intOf s12).toNat)
  case atStart => exact ⟨0, rfl, rfl, rfl, Nat.zero_le _⟩
  case round =>
    obtain ⟨k, rfl, rfl, rfl, hk⟩ := hrel
    by_cases hlt : k < l.length
    · obtain ⟨x, hxk⟩ := getElem?_some_of_lt hlt
      obtain ⟨b, off, rfl, hb, hcc⟩ := hc k x hxk
      have c0 : w.cell? ⟨b, off + k * 3, none⟩ = some (.int .i64 x.k) := hcc 0 _ rfl
      have c1 : w.cell? ⟨b, off + k * 3 + 1, none⟩ = some (.int .i64 x.b) := hcc 1 _ rfl
      have c2 : w.cell? ⟨b, off + k * 3 + 2, none⟩ = some (.int .i64 x.v) := hcc 2 _ rfl
      have Hr := Lib.hid (readV_snoc (atK s key) key by_ hxk)
      clear hcc hc hxk
      rcases ne_cases x.k key with ⟨h1, _⟩ | ⟨h1, _⟩
      · have h1' : (x.k == key) = false := by simpa using h1
        have hst := rdStep_no1 (by_ := by_) (p := readV (atK s key) (l.take k) key by_) h1
        have Hst := Lib.hid hst; clear hst
        go_wp2_with fail
        go_round
        case rel => exact ⟨k + 1, by go_num, by rw [Hr.out, Hst.out], by rw [Hr.out, Hst.out], by omega⟩
        case measure => simp [intOf]; omega
      · have h1' : (x.k == key) = true := by simpa using h1
        by_cases h2 : x.b < by_
        · have h2' : decide (x.b < by_) = true := by simpa using h2
          have hst := rdStep_yes (p := readV (atK s key) (l.take k) key by_) h1 h2
          have Hst := Lib.hid hst; clear hst h1
          go_wp2_with fail
          go_round
          case rel => exact ⟨k + 1, by go_num, by rw [Hr.out, Hst.out], by rw [Hr.out, Hst.out], by omega⟩
          case measure => simp [intOf]; omega
        · have h2' : decide (x.b < by_) = false := by simpa using h2
          have hst := rdStep_no2 (key := key) (p := readV (atK s key) (l.take k) key by_) h2
          have Hst := Lib.hid hst; clear hst h1
          go_wp2_with fail
          go_round
          case rel => exact ⟨k + 1, by go_num, by rw [Hr.out, Hst.out], by rw [Hr.out, Hst.out], by omega⟩
          case measure => simp [intOf]; omega
    · go_wp2_with fail
      go_ret2
      obtain rfl : k = l.length := by omega
      rw [List.take_length]
      exact ⟨rfl, rfl⟩
set_option maxHeartbeats 1000000 in
theorem read_any (bs : List Int) (base : Int) (l : List Ver) (v : Value) (key by_ : Int) (w : World) (hb : bs[key.toNat]? = some base) (k0 : 0 ≤ key) (k1 : key ≤ 31) (h : SL (RF Ver.enc) 3 w v l) :
    Calls Try.prog 77 #[.agg (vA bs), v, .int .i64 key, .int .i64 by_] w fun e w' => e = .returned (.tuple #[.int .i64 (readV base l key by_).1, .int .i64 (readV base l key by_).2]) ∧ Up w w' := by
  obtain ⟨a, cap, rfl, hlen, hc⟩ := h.open
  have hcell := (Row.new 71 w bs).cell hb
  clear h hb
  go_enter Try.func77, Try.ntmps77
  go_wp2_with fail
  go_loopw [10, 11, 13, 19] (fun s10 s11 _ s19 wr => ∃ k : Nat, s19 = .int .i64 k ∧ s10 = .int .i64 (readV base (l.take k) key by_).1 ∧ s11 = .int .i64 (readV base (l.take k) key by_).2 ∧ k ≤ l.length ∧ Up w wr) (fun _ _ _ s19 _ => l.length - (intOf s19).toNat)
  case atStart => exact ⟨0, rfl, rfl, rfl, Nat.zero_le _, (.of (by repeat (first | exact Ext.refl _ | refine Ext.up ?_ _ | refine Ext.alloc ?_ _ | refine Ext.drew ?_ | refine Ext.setRow ?_ (by first | (dsimp only; omega) | exact LeS.le | exact LeS.add _ | (simp; done) | (simp; omega)) _ | refine Ext.setCell ?_ (by first | (dsimp only; omega) | exact LeS.le | exact LeS.add _ | (simp; done) | (simp; omega)) _)))⟩
  case round =>
    obtain ⟨k, rfl, rfl, rfl, hk, z, rfl⟩ := hrel
    by_cases hlt : k < l.length
    · obtain ⟨x, hxk⟩ := getElem?_some_of_lt hlt
      obtain ⟨b, off, rfl, hb, hcc⟩ := hc k x hxk
      have c0 : w.cell? ⟨b, off + k * 3, none⟩ = some (.int .i64 x.k) := hcc 0 _ rfl
      have c1 : w.cell? ⟨b, off + k * 3 + 1, none⟩ = some (.int .i64 x.b) := hcc 1 _ rfl
      have c2 : w.cell? ⟨b, off + k * 3 + 2, none⟩ = some (.int .i64 x.v) := hcc 2 _ rfl
      have Hr := Lib.hid (readV_snoc base key by_ hxk)
      clear hcc hc hxk hcell
      rcases ne_cases x.k key with ⟨h1, _⟩ | ⟨h1, _⟩
      · have h1' : (x.k == key) = false := by simpa using h1
        have hst := rdStep_no1 (by_ := by_) (p := readV base (l.take k) key by_) h1
        have Hst := Lib.hid hst; clear hst
        go_wp2_with fail
        go_roundw
        case rel => exact ⟨k + 1, by go_num, by rw [Hr.out, Hst.out], by rw [Hr.out, Hst.out], by omega, (.of (by repeat (first | exact Ext.refl _ | refine Ext.up ?_ _ | refine Ext.alloc ?_ _ | refine Ext.drew ?_ | refine Ext.setRow ?_ (by first | (dsimp only; omega) | exact LeS.le | exact LeS.add _ | (simp; done) | (simp; omega)) _ | refine Ext.setCell ?_ (by first | (dsimp only; omega) | exact LeS.le | exact LeS.add _ | (simp; done) | (simp; omega)) _)))⟩
        case measure => simp [intOf]; omega
      · have h1' : (x.k == key) = true := by simpa using h1
        by_cases h2 : x.b < by_
        · have h2' : decide (x.b < by_) = true := by simpa using h2
          have hst := rdStep_yes (p := readV base (l.take k) key by_) h1 h2
          have Hst := Lib.hid hst; clear hst h1
          go_wp2_with fail
          (refine wp_region_up (by kernel_rfl) (by kernel_rfl) ?_; (repeat (go_big_quiet_step (fail))); refine wpQuiet_nil ?_; intro _ hw'; obtain ⟨zq, hw''⟩ := hw'; subst hw'')
          go_wp2_with fail
          go_roundw
          case rel => exact ⟨k + 1, by go_num, by rw [Hr.out, Hst.out], by rw [Hr.out, Hst.out], by omega, (.of (by repeat (first | exact Ext.refl _ | refine Ext.up ?_ _ | refine Ext.alloc ?_ _ | refine Ext.drew ?_ | refine Ext.setRow ?_ (by first | (dsimp only; omega) | exact LeS.le | exact LeS.add _ | (simp; done) | (simp; omega)) _ | refine Ext.setCell ?_ (by first | (dsimp only; omega) | exact LeS.le | exact LeS.add _ | (simp; done) | (simp; omega)) _)))⟩
          case measure => simp [intOf]; omega
        · have h2' : decide (x.b < by_) = false := by simpa using h2
          have hst := rdStep_no2 (key := key) (p := readV base (l.take k) key by_) h2
          have Hst := Lib.hid hst; clear hst h1
          go_wp2_with fail
          go_roundw
          case rel => exact ⟨k + 1, by go_num, by rw [Hr.out, Hst.out], by rw [Hr.out, Hst.out], by omega, (.of (by repeat (first | exact Ext.refl _ | refine Ext.up ?_ _ | refine Ext.alloc ?_ _ | refine Ext.drew ?_ | refine Ext.setRow ?_ (by first | (dsimp only; omega) | exact LeS.le | exact LeS.add _ | (simp; done) | (simp; omega)) _ | refine Ext.setCell ?_ (by first | (dsimp only; omega) | exact LeS.le | exact LeS.add _ | (simp; done) | (simp; omega)) _)))⟩
          case measure => simp [intOf]; omega
    · go_wp2_with fail
      go_ret2
      obtain rfl : k = l.length := by omega
      rw [List.take_length]
      exact ⟨rfl, z, rfl⟩
end Go.Proofs.Ytnknamddonjnjaa
namespace Go.Proofs.Ytnknamddonjnjaa
open Go Go.RowKit Go.Proofs

def rdOk (s : List Ent) (l : List Ver) (key by_ : Int) : Bool := entsOk 1 s && (versOk l && (inR key 0 31 && inR by_ 0 10))
def rdV (s : List Ent) (l : List Ver) (key by_ : Int) : Int × Int := if rdOk s l key by_ = true then readV (atK s key) l key by_ else (-1, -1)
theorem rdV_no {s : List Ent} {l : List Ver} {key by_ : Int} (h : rdOk s l key by_ = false) : rdV s l key by_ = (-1, -1) := by unfold rdV; rw [h]; rfl
theorem rdV_yes {s : List Ent} {l : List Ver} {key by_ : Int} (h : rdOk s l key by_ = true) : rdV s l key by_ = readV (atK s key) l key by_ := by unfold rdV; rw [h]; rfl
end Go.Proofs.Ytnknamddonjnjaa
namespace Go.Proofs.Ytnknamddonjnjaa
open Go Go.RowKit Go.Proofs

def lastR (s : List Ent) (l : List Ver) : List Ent := if (entsOk 1 s && versOk l) = true then storeOf (lastV s l) else []
theorem lastR_no {s : List Ent} {l : List Ver} (h : (entsOk 1 s && versOk l) = false) : lastR s l = [] := by unfold lastR; rw [h]; rfl
theorem lastR_yes {s : List Ent} {l : List Ver} (h : (entsOk 1 s && versOk l) = true) : lastR s l = storeOf (lastV s l) := by unfold lastR; rw [h]; rfl
theorem lastR_le (s : List Ent) (l : List Ver) : (lastR s l).length ≤ 32 := by unfold lastR; split; exact storeOf_le _; simp
end Go.Proofs.Ytnknamddonjnjaa
