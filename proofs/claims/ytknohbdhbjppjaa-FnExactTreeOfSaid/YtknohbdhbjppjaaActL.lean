/- Plain laws: actions: which keys they read and write; masks of keys. -/
import Derived.Test.YtknohbdhbjppjaaData
import Derived.Test.YtknohbdhbjppjaaBits
namespace Go.Proofs.Ytknohbdhbjppjaa
open Go Go.RowKit

def kindOk (kind dst amt : Int) : Bool := if kind = 1 ∨ kind = 6 then decide (dst = 0) else if kind = 3 ∨ kind = 4 ∨ kind = 5 then decide (amt = 0) else decide (kind = 2)
def Actn.ok (x : Actn) : Bool := inR x.src 0 31 && (inR x.dst 0 31 && (inR x.amt 0 1000000 && kindOk x.kind x.dst x.amt))
/-- The keys that an action reads. -/
def Actn.rk (x : Actn) : List Int := if x.kind = 1 then [] else if x.kind = 3 ∨ x.kind = 6 ∨ x.src = x.dst then [x.src] else [x.src, x.dst]
/-- The keys that it may write. -/
def Actn.wk (x : Actn) : List Int := if x.kind = 1 ∨ x.kind = 6 then [x.src] else if x.kind = 3 ∨ x.kind = 5 ∨ x.src = x.dst then [x.dst] else [min x.src x.dst, max x.src x.dst]
theorem kinds (k : Int) : k = 1 ∨ k = 2 ∨ k = 3 ∨ k = 4 ∨ k = 5 ∨ k = 6 ∨ (k ≠ 1 ∧ k ≠ 2 ∧ k ≠ 3 ∧ k ≠ 4 ∧ k ≠ 5 ∧ k ≠ 6) := by omega
theorem Actn.rk_in {x : Actn} (h : x.ok = true) : ∀ n ∈ x.rk, 0 ≤ n ∧ n ≤ 31 := by
  simp only [Actn.ok, Bool.and_eq_true, inR_iff] at h
  obtain ⟨⟨h1, h2⟩, ⟨h3, h4⟩, _⟩ := h
  intro n hn
  unfold Actn.rk at hn
  split at hn
  · simp at hn
  · split at hn <;> simp at hn
    · omega
    · rcases hn with rfl | rfl <;> omega
theorem Actn.wk_in {x : Actn} (h : x.ok = true) : ∀ n ∈ x.wk, 0 ≤ n ∧ n ≤ 31 := by
  simp only [Actn.ok, Bool.and_eq_true, inR_iff] at h
  obtain ⟨⟨h1, h2⟩, ⟨h3, h4⟩, _⟩ := h
  intro n hn
  unfold Actn.wk at hn
  split at hn
  · simp at hn; omega
  · split at hn <;> simp at hn
    · omega
    · rcases hn with rfl | rfl <;> omega
theorem Actn.rk_le (x : Actn) : x.rk.length ≤ 2 := by unfold Actn.rk; split <;> (try split) <;> simp
theorem Actn.wk_le (x : Actn) : x.wk.length ≤ 2 := by unfold Actn.wk; split <;> (try split) <;> simp

/-- Keys as bits. -/
def maskN (l : List Int) : Nat := l.foldl (fun m k => m ||| 2 ^ k.toNat) 0
theorem maskN_snoc (l : List Int) (k : Int) : maskN (l ++ [k]) = maskN l ||| 2 ^ k.toNat := by simp [maskN]
theorem maskN_lt (l : List Int) (h : ∀ n ∈ l, 0 ≤ n ∧ n ≤ 31) : maskN l < 4294967296 := by
  have key : ∀ (l : List Int) (m : Nat), m < 2 ^ 32 → (∀ n ∈ l, 0 ≤ n ∧ n ≤ 31) → l.foldl (fun m k => m ||| 2 ^ k.toNat) m < 2 ^ 32 := by
    intro l
    induction l with
    | nil => intro m hm _; simpa using hm
    | cons k l ih =>
      intro m hm h
      simp only [List.foldl_cons]
      refine ih _ (Nat.or_lt_two_pow hm ?_) (fun n hn => h n (by simp [hn]))
      have := h k (by simp)
      exact Nat.pow_lt_pow_right (by decide) (by omega)
  exact key l 0 (by decide) h
theorem maskN_bit (l : List Int) (i : Nat) (h : ∀ n ∈ l, 0 ≤ n) : (maskN l).testBit i = decide ((i : Int) ∈ l) := by
  have key : ∀ (l : List Int) (m : Nat), (∀ n ∈ l, 0 ≤ n) → (l.foldl (fun m k => m ||| 2 ^ k.toNat) m).testBit i = (m.testBit i || decide ((i : Int) ∈ l)) := by
    intro l
    induction l with
    | nil => intro m _; simp
    | cons k l ih =>
      intro m h
      simp only [List.foldl_cons]
      rw [ih _ (fun n hn => h n (by simp [hn])), Nat.testBit_or, Nat.testBit_two_pow]
      have := h k (by simp)
      have e : decide (k.toNat = i) = decide ((i : Int) = k) := by rw [Bool.eq_iff_iff]; simp; omega
      rw [e, Bool.or_assoc]
      simp
  have := key l 0 h
  simpa [maskN] using this
/-- A key of both. -/
def common (a b : List Int) : Bool := a.any fun x => b.contains x
theorem maskN_and {a b : List Int} (ha : ∀ n ∈ a, 0 ≤ n) (hb : ∀ n ∈ b, 0 ≤ n) : (maskN a &&& maskN b ≠ 0) ↔ common a b = true := by
  constructor
  · intro h
    obtain ⟨i, hi⟩ := Nat.exists_testBit_of_ne_zero h
    rw [Nat.testBit_and, maskN_bit a i ha, maskN_bit b i hb] at hi
    simp at hi
    simp only [common, List.any_eq_true]
    exact ⟨i, hi.1, by simpa using hi.2⟩
  · intro h
    simp only [common, List.any_eq_true] at h
    obtain ⟨x, hx, hy⟩ := h
    have h0 := ha x hx
    have e : (x.toNat : Int) = x := by omega
    intro hz
    have h1 : (maskN a &&& maskN b).testBit x.toNat = true := by
      rw [Nat.testBit_and, maskN_bit a _ ha, maskN_bit b _ hb, e]
      simp at hy
      simp [hx, hy]
    rw [hz] at h1
    simp at h1
/-- Two actions that may not change their order. -/
def conf (a b : Actn) : Bool := common a.wk b.wk || (common a.wk b.rk || common a.rk b.wk)
def conflict (a b : Actn) : Bool := a.ok && (b.ok && conf a b)
end Go.Proofs.Ytknohbdhbjppjaa
