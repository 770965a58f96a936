/- Plain facts on bits of an int64. Plain laws: actions: which keys they read and write; masks of keys. Walks: actions. Walks: lists of actions, blocks. Walks: blocks. The decoder of the laws' blocks. -/
import Derived.Test.YtknohbdhbjppjaaGBRTop00
import Derived.Test.YtknohbdhbjppjaaProg
import Derived.Test.YtknohbdhbjppjaaGBRTop01
import Derived.Test.YtknohbdhbjppjaaGBRTop02
set_option linter.unusedSimpArgs false
set_option linter.unusedVariables false
namespace Go.Proofs.Ytknohbdhbjppjaa
open Go Go.RowKit
theorem wrap_i64_nat (n : Nat) (h : n < 9223372036854775808) : IntKind.i64.wrap (n : Int) = n := IntWalk.i64_in _ ⟨by omega, by omega⟩
theorem ofInt_i64n (a : Nat) (ha : a < 9223372036854775808) : (BitVec.ofInt 64 (a : Int)).toNat = a := by
  rw [BitVec.ofInt_natCast, BitVec.toNat_ofNat]; exact Nat.mod_eq_of_lt (by omega)
theorem i64_or_nat (a b : Nat) (ha : a < 9223372036854775808) (hb : b < 9223372036854775808) : bits .or .i64 (a : Int) (b : Int) = ((a ||| b : Nat) : Int) := by
  have h : a ||| b < 2 ^ 63 := Nat.or_lt_two_pow (n := 63) (by omega) (by omega)
  show IntKind.i64.wrap ((BitVec.ofInt 64 (a : Int) ||| BitVec.ofInt 64 (b : Int)).toNat : Int) = _
  rw [BitVec.toNat_or, ofInt_i64n a ha, ofInt_i64n b hb]
  exact wrap_i64_nat _ (by omega)
theorem i64_and_nat (a b : Nat) (ha : a < 9223372036854775808) (hb : b < 9223372036854775808) : bits .and .i64 (a : Int) (b : Int) = ((a &&& b : Nat) : Int) := by
  have h : a &&& b < 2 ^ 63 := Nat.and_lt_two_pow (n := 63) _ (by omega)
  show IntKind.i64.wrap ((BitVec.ofInt 64 (a : Int) &&& BitVec.ofInt 64 (b : Int)).toNat : Int) = _
  rw [BitVec.toNat_and, ofInt_i64n a ha, ofInt_i64n b hb]
  exact wrap_i64_nat _ (by omega)
theorem i64_xor_nat (a b : Nat) (ha : a < 9223372036854775808) (hb : b < 9223372036854775808) : bits .xor .i64 (a : Int) (b : Int) = ((a ^^^ b : Nat) : Int) := by
  have h : a ^^^ b < 2 ^ 63 := Nat.xor_lt_two_pow (n := 63) (by omega) (by omega)
  show IntKind.i64.wrap ((BitVec.ofInt 64 (a : Int) ^^^ BitVec.ofInt 64 (b : Int)).toNat : Int) = _
  rw [BitVec.toNat_xor, ofInt_i64n a ha, ofInt_i64n b hb]
  exact wrap_i64_nat _ (by omega)
end Go.Proofs.Ytknohbdhbjppjaa
namespace Go.Proofs.Ytknohbdhbjppjaa
open Go Go.RowKit

def kindOk (kind dst amt : Int) : Bool := if kind = 1 ∨ kind = 6 then decide (dst = 0) else if kind = 3 ∨ kind = 4 ∨ kind = 5 then decide (amt = 0) else decide (kind = 2)
def Actn.ok (x : Actn) : Bool := inR x.src 0 31 && (inR x.dst 0 31 && (inR x.amt 0 1000000 && kindOk x.kind x.dst x.amt))
/-- The keys that an action reads. -/
def Actn.rk (x : Actn) : List Int := if x.kind = 1 then [] else if x.kind = 3 ∨ x.kind = 6 ∨ x.src = x.dst then [x.src] else [x.src, x.dst]
/-- The keys that it may write. -/
def Actn.wk (x : Actn) : List Int := if x.kind = 1 ∨ x.kind = 6 then [x.src] else if x.kind = 3 ∨ x.kind = 5 ∨ x.src = x.dst then [x.dst] else [min x.src x.dst, max x.src x.dst]
theorem kinds (k : Int) : k = 1 ∨ k = 2 ∨ k = 3 ∨ k = 4 ∨ k = 5 ∨ k = 6 ∨ (k ≠ 1 ∧ k ≠ 2 ∧ k ≠ 3 ∧ k ≠ 4 ∧ k ≠ 5 ∧ k ≠ 6) := by omega
theorem Actn.rk_in {x : Actn} (h : x.ok = true) : ∀ n ∈ x.rk, 0 ≤ n ∧ n ≤ 31 := by
  simp only [Actn.ok, Bool.and_eq_true, inR_iff] at h
  obtain ⟨⟨h1, h2⟩, ⟨h3, h4⟩, _⟩ := h
  intro n hn
  unfold Actn.rk at hn
  split at hn
  · simp at hn
  · split at hn <;> simp at hn
    · omega
    · rcases hn with rfl | rfl <;> omega
theorem Actn.wk_in {x : Actn} (h : x.ok = true) : ∀ n ∈ x.wk, 0 ≤ n ∧ n ≤ 31 := by
  simp only [Actn.ok, Bool.and_eq_true, inR_iff] at h
  obtain ⟨⟨h1, h2⟩, ⟨h3, h4⟩, _⟩ := h
  intro n hn
  unfold Actn.wk at hn
  split at hn
  · simp at hn; omega
  · split at hn <;> simp at hn
    · omega
    · rcases hn with rfl | rfl <;> omega
theorem Actn.rk_le (x : Actn) : x.rk.length ≤ 2 := by unfold Actn.rk; split <;> (try split) <;> simp
theorem Actn.wk_le (x : Actn) : x.wk.length ≤ 2 := by unfold Actn.wk; split <;> (try split) <;> simp

/-- Keys as bits. -/
def maskN (l : List Int) : Nat := l.foldl (fun m k => m ||| 2 ^ k.toNat) 0
theorem maskN_snoc (l : List Int) (k : Int) : maskN (l ++ [k]) = maskN l ||| 2 ^ k.toNat := by simp [maskN]
theorem maskN_lt (l : List Int) (h : ∀ n ∈ l, 0 ≤ n ∧ n ≤ 31) : maskN l < 4294967296 := by
  have key : ∀ (l : List Int) (m : Nat), m < 2 ^ 32 → (∀ n ∈ l, 0 ≤ n ∧ n ≤ 31) → l.foldl (fun m k => m ||| 2 ^ k.toNat) m < 2 ^ 32 := by
    intro l
    induction l with
    | nil => intro m hm _; simpa using hm
    | cons k l ih =>
      intro m hm h
      simp only [List.foldl_cons]
      refine ih _ (Nat.or_lt_two_pow hm ?_) (fun n hn => h n (by simp [hn]))
      have := h k (by simp)
      exact Nat.pow_lt_pow_right (by decide) (by omega)
  exact key l 0 (by decide) h
theorem maskN_bit (l : List Int) (i : Nat) (h : ∀ n ∈ l, 0 ≤ n) : (maskN l).testBit i = decide ((i : Int) ∈ l) := by
  have key : ∀ (l : List Int) (m : Nat), (∀ n ∈ l, 0 ≤ n) → (l.foldl (fun m k => m ||| 2 ^ k.toNat) m).testBit i = (m.testBit i || decide ((i : Int) ∈ l)) := by
    intro l
    induction l with
    | nil => intro m _; simp
    | cons k l ih =>
      intro m h
      simp only [List.foldl_cons]
      rw [ih _ (fun n hn => h n (by simp [hn])), Nat.testBit_or, Nat.testBit_two_pow]
      have := h k (by simp)
      have e : decide (k.toNat = i) = decide ((i : Int) = k) := by rw [Bool.eq_iff_iff]; simp; omega
      rw [e, Bool.or_assoc]
      simp
  have := key l 0 h
  simpa [maskN] using this
/-- A key of both. -/
def common (a b : List Int) : Bool := a.any fun x => b.contains x
theorem maskN_and {a b : List Int} (ha : ∀ n ∈ a, 0 ≤ n) (hb : ∀ n ∈ b, 0 ≤ n) : (maskN a &&& maskN b ≠ 0) ↔ common a b = true := by
  constructor
  · intro h
    obtain ⟨i, hi⟩ := Nat.exists_testBit_of_ne_zero h
    rw [Nat.testBit_and, maskN_bit a i ha, maskN_bit b i hb] at hi
    simp at hi
    simp only [common, List.any_eq_true]
    exact ⟨i, hi.1, by simpa using hi.2⟩
  · intro h
    simp only [common, List.any_eq_true] at h
    obtain ⟨x, hx, hy⟩ := h
    have h0 := ha x hx
    have e : (x.toNat : Int) = x := by omega
    intro hz
    have h1 : (maskN a &&& maskN b).testBit x.toNat = true := by
      rw [Nat.testBit_and, maskN_bit a _ ha, maskN_bit b _ hb, e]
      simp at hy
      simp [hx, hy]
    rw [hz] at h1
    simp at h1
/-- Two actions that may not change their order. -/
def conf (a b : Actn) : Bool := common a.wk b.wk || (common a.wk b.rk || common a.rk b.wk)
def conflict (a b : Actn) : Bool := a.ok && (b.ok && conf a b)
end Go.Proofs.Ytknohbdhbjppjaa
namespace Go.Proofs.Ytknohbdhbjppjaa
open Go Go.RowKit Go.Proofs

theorem eq_cases (a b : Int) : (a = b ∧ (a == b) = true) ∨ (a ≠ b ∧ (a == b) = false) := by by_cases h : a = b <;> simp [h]

set_option maxHeartbeats 2000000 in
theorem iActionValid_any (x : Actn) (w : World) : Calls Try.prog 126 #[.agg #[.int .i64 x.kind, .int .i64 x.src, .int .i64 x.dst, .int .i64 x.amt]] w fun e w' => e = .returned (.bool x.ok) ∧ Up w w' := by
  obtain ⟨kind, src, dst, amt⟩ := x
  dsimp only
  rcases guards3 (inR src 0 31) (inR dst 0 31) (inR amt 0 1000000) with h1 | ⟨h1, h2⟩ | ⟨h1, h2, h3⟩ | ⟨h1, h2, h3⟩
  rotate_right
  rcases kinds kind with hk | hk | hk | hk | hk | hk | ⟨k1, k2, k3, k4, k5, k6⟩
  · subst hk
    go_enter Try.func126, Try.ntmps126
    go_wp2_with (first | (go_at_call 138; refine (isKey_any _ _).mono ?_; rintro e w' ⟨rfl, rfl⟩) | (go_at_call 139; refine (isValue_any _ _).mono ?_; rintro e w' ⟨rfl, rfl⟩))
    all_goals (go_ret; exact ⟨by simp [Actn.ok, kindOk, *] <;> rfl, (.of (by repeat (first | exact Ext.refl _ | refine Ext.up ?_ _ | refine Ext.alloc ?_ _ | refine Ext.drew ?_ | refine Ext.setRow ?_ (by first | (dsimp only; omega) | exact LeS.le | exact LeS.add _ | (simp; done) | (simp; omega)) _ | refine Ext.setCell ?_ (by first | (dsimp only; omega) | exact LeS.le | exact LeS.add _ | (simp; done) | (simp; omega)) _)))⟩)
  · subst hk
    go_enter Try.func126, Try.ntmps126
    go_wp2_with (first | (go_at_call 138; refine (isKey_any _ _).mono ?_; rintro e w' ⟨rfl, rfl⟩) | (go_at_call 139; refine (isValue_any _ _).mono ?_; rintro e w' ⟨rfl, rfl⟩))
    all_goals (go_ret; exact ⟨by simp [Actn.ok, kindOk, *] <;> rfl, (.of (by repeat (first | exact Ext.refl _ | refine Ext.up ?_ _ | refine Ext.alloc ?_ _ | refine Ext.drew ?_ | refine Ext.setRow ?_ (by first | (dsimp only; omega) | exact LeS.le | exact LeS.add _ | (simp; done) | (simp; omega)) _ | refine Ext.setCell ?_ (by first | (dsimp only; omega) | exact LeS.le | exact LeS.add _ | (simp; done) | (simp; omega)) _)))⟩)
  · subst hk
    go_enter Try.func126, Try.ntmps126
    go_wp2_with (first | (go_at_call 138; refine (isKey_any _ _).mono ?_; rintro e w' ⟨rfl, rfl⟩) | (go_at_call 139; refine (isValue_any _ _).mono ?_; rintro e w' ⟨rfl, rfl⟩))
    all_goals (go_ret; exact ⟨by simp [Actn.ok, kindOk, *] <;> rfl, (.of (by repeat (first | exact Ext.refl _ | refine Ext.up ?_ _ | refine Ext.alloc ?_ _ | refine Ext.drew ?_ | refine Ext.setRow ?_ (by first | (dsimp only; omega) | exact LeS.le | exact LeS.add _ | (simp; done) | (simp; omega)) _ | refine Ext.setCell ?_ (by first | (dsimp only; omega) | exact LeS.le | exact LeS.add _ | (simp; done) | (simp; omega)) _)))⟩)
  · subst hk
    go_enter Try.func126, Try.ntmps126
    go_wp2_with (first | (go_at_call 138; refine (isKey_any _ _).mono ?_; rintro e w' ⟨rfl, rfl⟩) | (go_at_call 139; refine (isValue_any _ _).mono ?_; rintro e w' ⟨rfl, rfl⟩))
    all_goals (go_ret; exact ⟨by simp [Actn.ok, kindOk, *] <;> rfl, (.of (by repeat (first | exact Ext.refl _ | refine Ext.up ?_ _ | refine Ext.alloc ?_ _ | refine Ext.drew ?_ | refine Ext.setRow ?_ (by first | (dsimp only; omega) | exact LeS.le | exact LeS.add _ | (simp; done) | (simp; omega)) _ | refine Ext.setCell ?_ (by first | (dsimp only; omega) | exact LeS.le | exact LeS.add _ | (simp; done) | (simp; omega)) _)))⟩)
  · subst hk
    go_enter Try.func126, Try.ntmps126
    go_wp2_with (first | (go_at_call 138; refine (isKey_any _ _).mono ?_; rintro e w' ⟨rfl, rfl⟩) | (go_at_call 139; refine (isValue_any _ _).mono ?_; rintro e w' ⟨rfl, rfl⟩))
    all_goals (go_ret; exact ⟨by simp [Actn.ok, kindOk, *] <;> rfl, (.of (by repeat (first | exact Ext.refl _ | refine Ext.up ?_ _ | refine Ext.alloc ?_ _ | refine Ext.drew ?_ | refine Ext.setRow ?_ (by first | (dsimp only; omega) | exact LeS.le | exact LeS.add _ | (simp; done) | (simp; omega)) _ | refine Ext.setCell ?_ (by first | (dsimp only; omega) | exact LeS.le | exact LeS.add _ | (simp; done) | (simp; omega)) _)))⟩)
  · subst hk
    go_enter Try.func126, Try.ntmps126
    go_wp2_with (first | (go_at_call 138; refine (isKey_any _ _).mono ?_; rintro e w' ⟨rfl, rfl⟩) | (go_at_call 139; refine (isValue_any _ _).mono ?_; rintro e w' ⟨rfl, rfl⟩))
    all_goals (go_ret; exact ⟨by simp [Actn.ok, kindOk, *] <;> rfl, (.of (by repeat (first | exact Ext.refl _ | refine Ext.up ?_ _ | refine Ext.alloc ?_ _ | refine Ext.drew ?_ | refine Ext.setRow ?_ (by first | (dsimp only; omega) | exact LeS.le | exact LeS.add _ | (simp; done) | (simp; omega)) _ | refine Ext.setCell ?_ (by first | (dsimp only; omega) | exact LeS.le | exact LeS.add _ | (simp; done) | (simp; omega)) _)))⟩)
  · have e1 : (kind == 1) = false := by simpa using k1
    have e2 : (kind == 2) = false := by simpa using k2
    have e3 : (kind == 3) = false := by simpa using k3
    have e4 : (kind == 4) = false := by simpa using k4
    have e5 : (kind == 5) = false := by simpa using k5
    have e6 : (kind == 6) = false := by simpa using k6
    have hf : kindOk kind dst amt = false := by simp [kindOk, *]
    go_enter Try.func126, Try.ntmps126
    go_wp2_with (first | (go_at_call 138; refine (isKey_any _ _).mono ?_; rintro e w' ⟨rfl, rfl⟩) | (go_at_call 139; refine (isValue_any _ _).mono ?_; rintro e w' ⟨rfl, rfl⟩))
    all_goals (go_ret; exact ⟨by simp [Actn.ok, hf], (.of (by repeat (first | exact Ext.refl _ | refine Ext.up ?_ _ | refine Ext.alloc ?_ _ | refine Ext.drew ?_ | refine Ext.setRow ?_ (by first | (dsimp only; omega) | exact LeS.le | exact LeS.add _ | (simp; done) | (simp; omega)) _ | refine Ext.setCell ?_ (by first | (dsimp only; omega) | exact LeS.le | exact LeS.add _ | (simp; done) | (simp; omega)) _)))⟩)
  all_goals
    go_enter Try.func126, Try.ntmps126
    go_wp2_with (first | (go_at_call 138; refine (isKey_any _ _).mono ?_; rintro e w' ⟨rfl, rfl⟩) | (go_at_call 139; refine (isValue_any _ _).mono ?_; rintro e w' ⟨rfl, rfl⟩))
    go_ret
    exact ⟨by simp [Actn.ok, *], (.of (by repeat (first | exact Ext.refl _ | refine Ext.up ?_ _ | refine Ext.alloc ?_ _ | refine Ext.drew ?_ | refine Ext.setRow ?_ (by first | (dsimp only; omega) | exact LeS.le | exact LeS.add _ | (simp; done) | (simp; omega)) _ | refine Ext.setCell ?_ (by first | (dsimp only; omega) | exact LeS.le | exact LeS.add _ | (simp; done) | (simp; omega)) _)))⟩
set_option maxHeartbeats 2000000 in
theorem sActionValid_any (x : Actn) (w : World) : Calls Try.prog 68 #[.agg #[.int .i64 x.kind, .int .i64 x.src, .int .i64 x.dst, .int .i64 x.amt]] w fun e w' => e = .returned (.bool x.ok) ∧ Up w w' := by
  obtain ⟨kind, src, dst, amt⟩ := x
  dsimp only
  rcases guards3 (inR src 0 31) (inR dst 0 31) (inR amt 0 1000000) with h1 | ⟨h1, h2⟩ | ⟨h1, h2, h3⟩ | ⟨h1, h2, h3⟩
  rotate_right
  rcases kinds kind with hk | hk | hk | hk | hk | hk | ⟨k1, k2, k3, k4, k5, k6⟩
  · subst hk
    go_enter Try.func68, Try.ntmps68
    go_wp2_with ((go_at_call 84; refine (l1In_any _ _ _ _).mono ?_; rintro e w' ⟨rfl, rfl⟩))
    all_goals (go_ret; exact ⟨by simp [Actn.ok, kindOk, *] <;> rfl, (.of (by repeat (first | exact Ext.refl _ | refine Ext.up ?_ _ | refine Ext.alloc ?_ _ | refine Ext.drew ?_ | refine Ext.setRow ?_ (by first | (dsimp only; omega) | exact LeS.le | exact LeS.add _ | (simp; done) | (simp; omega)) _ | refine Ext.setCell ?_ (by first | (dsimp only; omega) | exact LeS.le | exact LeS.add _ | (simp; done) | (simp; omega)) _)))⟩)
  · subst hk
    go_enter Try.func68, Try.ntmps68
    go_wp2_with ((go_at_call 84; refine (l1In_any _ _ _ _).mono ?_; rintro e w' ⟨rfl, rfl⟩))
    all_goals (go_ret; exact ⟨by simp [Actn.ok, kindOk, *] <;> rfl, (.of (by repeat (first | exact Ext.refl _ | refine Ext.up ?_ _ | refine Ext.alloc ?_ _ | refine Ext.drew ?_ | refine Ext.setRow ?_ (by first | (dsimp only; omega) | exact LeS.le | exact LeS.add _ | (simp; done) | (simp; omega)) _ | refine Ext.setCell ?_ (by first | (dsimp only; omega) | exact LeS.le | exact LeS.add _ | (simp; done) | (simp; omega)) _)))⟩)
  · subst hk
    go_enter Try.func68, Try.ntmps68
    go_wp2_with ((go_at_call 84; refine (l1In_any _ _ _ _).mono ?_; rintro e w' ⟨rfl, rfl⟩))
    all_goals (go_ret; exact ⟨by simp [Actn.ok, kindOk, *] <;> rfl, (.of (by repeat (first | exact Ext.refl _ | refine Ext.up ?_ _ | refine Ext.alloc ?_ _ | refine Ext.drew ?_ | refine Ext.setRow ?_ (by first | (dsimp only; omega) | exact LeS.le | exact LeS.add _ | (simp; done) | (simp; omega)) _ | refine Ext.setCell ?_ (by first | (dsimp only; omega) | exact LeS.le | exact LeS.add _ | (simp; done) | (simp; omega)) _)))⟩)
  · subst hk
    go_enter Try.func68, Try.ntmps68
    go_wp2_with ((go_at_call 84; refine (l1In_any _ _ _ _).mono ?_; rintro e w' ⟨rfl, rfl⟩))
    all_goals (go_ret; exact ⟨by simp [Actn.ok, kindOk, *] <;> rfl, (.of (by repeat (first | exact Ext.refl _ | refine Ext.up ?_ _ | refine Ext.alloc ?_ _ | refine Ext.drew ?_ | refine Ext.setRow ?_ (by first | (dsimp only; omega) | exact LeS.le | exact LeS.add _ | (simp; done) | (simp; omega)) _ | refine Ext.setCell ?_ (by first | (dsimp only; omega) | exact LeS.le | exact LeS.add _ | (simp; done) | (simp; omega)) _)))⟩)
  · subst hk
    go_enter Try.func68, Try.ntmps68
    go_wp2_with ((go_at_call 84; refine (l1In_any _ _ _ _).mono ?_; rintro e w' ⟨rfl, rfl⟩))
    all_goals (go_ret; exact ⟨by simp [Actn.ok, kindOk, *] <;> rfl, (.of (by repeat (first | exact Ext.refl _ | refine Ext.up ?_ _ | refine Ext.alloc ?_ _ | refine Ext.drew ?_ | refine Ext.setRow ?_ (by first | (dsimp only; omega) | exact LeS.le | exact LeS.add _ | (simp; done) | (simp; omega)) _ | refine Ext.setCell ?_ (by first | (dsimp only; omega) | exact LeS.le | exact LeS.add _ | (simp; done) | (simp; omega)) _)))⟩)
  · subst hk
    go_enter Try.func68, Try.ntmps68
    go_wp2_with ((go_at_call 84; refine (l1In_any _ _ _ _).mono ?_; rintro e w' ⟨rfl, rfl⟩))
    all_goals (go_ret; exact ⟨by simp [Actn.ok, kindOk, *] <;> rfl, (.of (by repeat (first | exact Ext.refl _ | refine Ext.up ?_ _ | refine Ext.alloc ?_ _ | refine Ext.drew ?_ | refine Ext.setRow ?_ (by first | (dsimp only; omega) | exact LeS.le | exact LeS.add _ | (simp; done) | (simp; omega)) _ | refine Ext.setCell ?_ (by first | (dsimp only; omega) | exact LeS.le | exact LeS.add _ | (simp; done) | (simp; omega)) _)))⟩)
  · have e1 : (kind == 1) = false := by simpa using k1
    have e2 : (kind == 2) = false := by simpa using k2
    have e3 : (kind == 3) = false := by simpa using k3
    have e4 : (kind == 4) = false := by simpa using k4
    have e5 : (kind == 5) = false := by simpa using k5
    have e6 : (kind == 6) = false := by simpa using k6
    have hf : kindOk kind dst amt = false := by simp [kindOk, *]
    go_enter Try.func68, Try.ntmps68
    go_wp2_with ((go_at_call 84; refine (l1In_any _ _ _ _).mono ?_; rintro e w' ⟨rfl, rfl⟩))
    all_goals (go_ret; exact ⟨by simp [Actn.ok, hf], (.of (by repeat (first | exact Ext.refl _ | refine Ext.up ?_ _ | refine Ext.alloc ?_ _ | refine Ext.drew ?_ | refine Ext.setRow ?_ (by first | (dsimp only; omega) | exact LeS.le | exact LeS.add _ | (simp; done) | (simp; omega)) _ | refine Ext.setCell ?_ (by first | (dsimp only; omega) | exact LeS.le | exact LeS.add _ | (simp; done) | (simp; omega)) _)))⟩)
  all_goals
    go_enter Try.func68, Try.ntmps68
    go_wp2_with ((go_at_call 84; refine (l1In_any _ _ _ _).mono ?_; rintro e w' ⟨rfl, rfl⟩))
    go_ret
    exact ⟨by simp [Actn.ok, *], (.of (by repeat (first | exact Ext.refl _ | refine Ext.up ?_ _ | refine Ext.alloc ?_ _ | refine Ext.drew ?_ | refine Ext.setRow ?_ (by first | (dsimp only; omega) | exact LeS.le | exact LeS.add _ | (simp; done) | (simp; omega)) _ | refine Ext.setCell ?_ (by first | (dsimp only; omega) | exact LeS.le | exact LeS.add _ | (simp; done) | (simp; omega)) _)))⟩
set_option maxHeartbeats 2000000 in
theorem reads_any (x : Actn) (w : World) : Calls Try.prog 164 #[.agg #[.int .i64 x.kind, .int .i64 x.src, .int .i64 x.dst, .int .i64 x.amt]] w fun e w' => ∃ v, e = .returned v ∧ Up w w' ∧ Own encI 3 1 w.heap.size w' v x.rk := by
  obtain ⟨kind, src, dst, amt⟩ := x
  dsimp only
  rcases kinds kind with hk | hk | hk | hk | hk | hk | ⟨k1, k2, k3, k4, k5, k6⟩
  rotate_right
  have e1 : (kind == 1) = false := by simpa using k1
  have e2 : (kind == 2) = false := by simpa using k2
  have e3 : (kind == 3) = false := by simpa using k3
  have e4 : (kind == 4) = false := by simpa using k4
  have e5 : (kind == 5) = false := by simpa using k5
  have e6 : (kind == 6) = false := by simpa using k6
  all_goals try subst hk
  all_goals rcases eq_cases src dst with ⟨hs, hs'⟩ | ⟨hs, hs'⟩
  all_goals
    have HS := Lib.hid hs; clear hs
    go_enter Try.func164, Try.ntmps164
    go_wp2_with fail
    go_ret
    refine ⟨_, rfl, (.of (by repeat (first | exact Ext.refl _ | refine Ext.up ?_ _ | refine Ext.alloc ?_ _ | refine Ext.drew ?_ | refine Ext.setRow ?_ (by first | (dsimp only; omega) | exact LeS.le | exact LeS.add _ | (simp; done) | (simp; omega)) _ | refine Ext.setCell ?_ (by first | (dsimp only; omega) | exact LeS.le | exact LeS.add _ | (simp; done) | (simp; omega)) _))), ?_⟩
    have hs := HS.out
    simp [Actn.rk, *]
    first | exact Own.nil _ _ _ _ _ | (refine Own.lit (by simp) (by simp) rfl rfl encI_length (by simp))
end Go.Proofs.Ytknohbdhbjppjaa
namespace Go.Proofs.Ytknohbdhbjppjaa
open Go Go.RowKit Go.Proofs

theorem all_next {α : Type} {p : α → Bool} {l : List α} {k : Nat} {x : α} (h : l[k]? = some x) (h0 : (l.take k).all p = true) (h1 : p x = true) : (l.take (k + 1)).all p = true := by
  rw [List.take_add_one, h, List.all_append, h0]; simp [h1]
theorem all_stop {α : Type} {p : α → Bool} {l : List α} {k : Nat} {x : α} (h : l[k]? = some x) (h1 : p x = false) : l.all p = false := by
  rw [← Bool.not_eq_true, List.all_eq_true]; intro hh; rw [hh x (List.mem_of_getElem? h)] at h1; cases h1
def actsOk (l : List Actn) : Bool := decide ((l.length : Int) ≤ 10) && l.all Actn.ok

set_option maxHeartbeats 1000000 in
theorem sActionsValid_any (l : List Actn) (v : Value) (w : World) (h : SL (RF Actn.enc) 4 w v l) :
    Calls Try.prog 143 #[v] w fun e w' => e = .returned (.bool (actsOk l)) ∧ Up w w' := by
  obtain ⟨p, cap, rfl, hlen, hc⟩ := h.open
  clear h
  go_enter Try.func143, Try.ntmps143
  go_wp2_with fail
  go_loopw [3] (fun s3 wr => ∃ (k : Nat), s3 = .int .i64 k ∧ k ≤ l.length ∧ (l.take k).all Actn.ok = true ∧ Up w wr) (fun s3 _ => l.length - (intOf s3).toNat)
  case atStart => exact ⟨0, rfl, Nat.zero_le _, rfl, (.of (by repeat (first | exact Ext.refl _ | refine Ext.up ?_ _ | refine Ext.alloc ?_ _ | refine Ext.drew ?_ | refine Ext.setRow ?_ (by first | (dsimp only; omega) | exact LeS.le | exact LeS.add _ | (simp; done) | (simp; omega)) _ | refine Ext.setCell ?_ (by first | (dsimp only; omega) | exact LeS.le | exact LeS.add _ | (simp; done) | (simp; omega)) _)))⟩
  case round =>
    obtain ⟨k, rfl, hk, hall, ⟨z, rfl⟩⟩ := hrel
    by_cases hlt : k < l.length
    · obtain ⟨x, hxk⟩ := getElem?_some_of_lt hlt
      obtain ⟨b, off, rfl, hb, hcc⟩ := hc k x hxk
      have c0 : w.cell? ⟨b, off + k * 4, none⟩ = some (.int .i64 x.kind) := hcc 0 _ rfl
      have c1 : w.cell? ⟨b, off + k * 4 + 1, none⟩ = some (.int .i64 x.src) := hcc 1 _ rfl
      have c2 : w.cell? ⟨b, off + k * 4 + 2, none⟩ = some (.int .i64 x.dst) := hcc 2 _ rfl
      have c3 : w.cell? ⟨b, off + k * 4 + 3, none⟩ = some (.int .i64 x.amt) := hcc 3 _ rfl
      have k0 : (0 : Int) ≤ (k : Int) := by omega
      have Hx := Lib.hid hxk; have Hall := Lib.hid hall
      clear hc hcc hxk hall
      rcases hq : x.ok with _ | _
      · have kq := fun w => sActionValid_any x w
        rw [hq] at kq
        go_wp2_with (go_at_call 68; refine (kq _).mono ?_; rintro e w' ⟨rfl, z1, rfl⟩)
        go_ret
        refine ⟨?_, (.of (by repeat (first | exact Ext.refl _ | refine Ext.up ?_ _ | refine Ext.alloc ?_ _ | refine Ext.drew ?_ | refine Ext.setRow ?_ (by first | (dsimp only; omega) | exact LeS.le | exact LeS.add _ | (simp; done) | (simp; omega)) _ | refine Ext.setCell ?_ (by first | (dsimp only; omega) | exact LeS.le | exact LeS.add _ | (simp; done) | (simp; omega)) _)))⟩
        rw [actsOk, all_stop Hx.out hq, Bool.and_false]; rfl
      · have kq := fun w => sActionValid_any x w
        rw [hq] at kq
        go_wp2_with (go_at_call 68; refine (kq _).mono ?_; rintro e w' ⟨rfl, z1, rfl⟩)
        go_roundw
        case rel => exact ⟨k + 1, by go_num, by omega, all_next Hx.out Hall.out hq, (.of (by repeat (first | exact Ext.refl _ | refine Ext.up ?_ _ | refine Ext.alloc ?_ _ | refine Ext.drew ?_ | refine Ext.setRow ?_ (by first | (dsimp only; omega) | exact LeS.le | exact LeS.add _ | (simp; done) | (simp; omega)) _ | refine Ext.setCell ?_ (by first | (dsimp only; omega) | exact LeS.le | exact LeS.add _ | (simp; done) | (simp; omega)) _)))⟩
        case measure => simp [intOf]; omega
    · go_wp2_with fail
      go_ret
      refine ⟨?_, (.of (by repeat (first | exact Ext.refl _ | refine Ext.up ?_ _ | refine Ext.alloc ?_ _ | refine Ext.drew ?_ | refine Ext.setRow ?_ (by first | (dsimp only; omega) | exact LeS.le | exact LeS.add _ | (simp; done) | (simp; omega)) _ | refine Ext.setCell ?_ (by first | (dsimp only; omega) | exact LeS.le | exact LeS.add _ | (simp; done) | (simp; omega)) _)))⟩
      have : l.take k = l := List.take_of_length_le (by omega)
      rw [this] at hall
      rw [actsOk, hall, Bool.and_true]; rfl
theorem iActionsValid1_any (x : Actn) (w : World) : Calls Try.prog 177 #[.agg #[.int .i64 x.kind, .int .i64 x.src, .int .i64 x.dst, .int .i64 x.amt]] w fun e w' => e = .returned (.bool (!x.ok)) ∧ Up w w' := by
  go_enter Try.func177, Try.ntmps177
  go_wp2_with (go_at_call 126; refine (iActionValid_any x _).mono ?_; rintro e w' ⟨rfl, z, rfl⟩)
  go_ret
  exact ⟨rfl, (.of (by repeat (first | exact Ext.refl _ | refine Ext.up ?_ _ | refine Ext.alloc ?_ _ | refine Ext.drew ?_ | refine Ext.setRow ?_ (by first | (dsimp only; omega) | exact LeS.le | exact LeS.add _ | (simp; done) | (simp; omega)) _ | refine Ext.setCell ?_ (by first | (dsimp only; omega) | exact LeS.le | exact LeS.add _ | (simp; done) | (simp; omega)) _)))⟩
set_option maxHeartbeats 1000000 in
theorem iIndexA_any (l : List Actn) (v : Value) (w : World) (h : SL (RF Actn.enc) 4 w v l) :
    Calls Try.prog 199 #[v, .func (.func 177) #[] #[]] w fun e w' => ∃ n : Int, e = .returned (.int .i64 n) ∧ decide (0 ≤ n) = !l.all Actn.ok ∧ Up w w' := by
  obtain ⟨p, cap, rfl, hlen, hc⟩ := h.open
  clear h
  go_enter Try.func199, Try.ntmps199
  go_wp2_with fail
  go_loopw [5, 8] (fun _ s8 wr => ∃ (k : Nat), s8 = .int .i64 k ∧ k ≤ l.length ∧ (l.take k).all Actn.ok = true ∧ Up w wr) (fun _ s8 _ => l.length - (intOf s8).toNat)
  case atStart => exact ⟨0, rfl, Nat.zero_le _, rfl, (.of (by repeat (first | exact Ext.refl _ | refine Ext.up ?_ _ | refine Ext.alloc ?_ _ | refine Ext.drew ?_ | refine Ext.setRow ?_ (by first | (dsimp only; omega) | exact LeS.le | exact LeS.add _ | (simp; done) | (simp; omega)) _ | refine Ext.setCell ?_ (by first | (dsimp only; omega) | exact LeS.le | exact LeS.add _ | (simp; done) | (simp; omega)) _)))⟩
  case round =>
    obtain ⟨k, rfl, hk, hall, ⟨z, rfl⟩⟩ := hrel
    by_cases hlt : k < l.length
    · obtain ⟨x, hxk⟩ := getElem?_some_of_lt hlt
      obtain ⟨b, off, rfl, hb, hcc⟩ := hc k x hxk
      have c0 : w.cell? ⟨b, off + k * 4, none⟩ = some (.int .i64 x.kind) := hcc 0 _ rfl
      have c1 : w.cell? ⟨b, off + k * 4 + 1, none⟩ = some (.int .i64 x.src) := hcc 1 _ rfl
      have c2 : w.cell? ⟨b, off + k * 4 + 2, none⟩ = some (.int .i64 x.dst) := hcc 2 _ rfl
      have c3 : w.cell? ⟨b, off + k * 4 + 3, none⟩ = some (.int .i64 x.amt) := hcc 3 _ rfl
      have k0 : (0 : Int) ≤ (k : Int) := by omega
      have Hx := Lib.hid hxk; have Hall := Lib.hid hall
      clear hc hcc hxk hall
      have kq := fun w => iActionsValid1_any x w
      rcases hq : x.ok with _ | _
      · rw [hq] at kq
        go_wp2_with (go_at_call 177; refine (kq _).mono ?_; rintro e w' ⟨rfl, z1, rfl⟩)
        go_ret
        refine ⟨_, rfl, ?_, (.of (by repeat (first | exact Ext.refl _ | refine Ext.up ?_ _ | refine Ext.alloc ?_ _ | refine Ext.drew ?_ | refine Ext.setRow ?_ (by first | (dsimp only; omega) | exact LeS.le | exact LeS.add _ | (simp; done) | (simp; omega)) _ | refine Ext.setCell ?_ (by first | (dsimp only; omega) | exact LeS.le | exact LeS.add _ | (simp; done) | (simp; omega)) _)))⟩
        rw [all_stop Hx.out hq]; simp
      · rw [hq] at kq
        go_wp2_with (go_at_call 177; refine (kq _).mono ?_; rintro e w' ⟨rfl, z1, rfl⟩)
        go_roundw
        case rel => exact ⟨k + 1, by go_num, by omega, all_next Hx.out Hall.out hq, (.of (by repeat (first | exact Ext.refl _ | refine Ext.up ?_ _ | refine Ext.alloc ?_ _ | refine Ext.drew ?_ | refine Ext.setRow ?_ (by first | (dsimp only; omega) | exact LeS.le | exact LeS.add _ | (simp; done) | (simp; omega)) _ | refine Ext.setCell ?_ (by first | (dsimp only; omega) | exact LeS.le | exact LeS.add _ | (simp; done) | (simp; omega)) _)))⟩
        case measure => simp [intOf]; omega
    · go_wp2_with fail
      go_ret
      refine ⟨_, rfl, ?_, (.of (by repeat (first | exact Ext.refl _ | refine Ext.up ?_ _ | refine Ext.alloc ?_ _ | refine Ext.drew ?_ | refine Ext.setRow ?_ (by first | (dsimp only; omega) | exact LeS.le | exact LeS.add _ | (simp; done) | (simp; omega)) _ | refine Ext.setCell ?_ (by first | (dsimp only; omega) | exact LeS.le | exact LeS.add _ | (simp; done) | (simp; omega)) _)))⟩
      have : l.take k = l := List.take_of_length_le (by omega)
      rw [this] at hall
      rw [hall]; rfl
theorem iContainsA_any (l : List Actn) (v : Value) (w : World) (h : SL (RF Actn.enc) 4 w v l) :
    Calls Try.prog 176 #[v, .func (.func 177) #[] #[]] w fun e w' => e = .returned (.bool (!l.all Actn.ok)) ∧ Up w w' := by
  have hs := h
  obtain ⟨p, cap, rfl, hlen, hc⟩ := h.open
  clear hc h
  go_enter Try.func176, Try.ntmps176
  go_wp2_with (go_at_call 199; refine (iIndexA_any l _ _ hs).mono ?_; rintro e w' ⟨n, rfl, hn, z, rfl⟩)
  go_ret
  exact ⟨rfl, (.of (by repeat (first | exact Ext.refl _ | refine Ext.up ?_ _ | refine Ext.alloc ?_ _ | refine Ext.drew ?_ | refine Ext.setRow ?_ (by first | (dsimp only; omega) | exact LeS.le | exact LeS.add _ | (simp; done) | (simp; omega)) _ | refine Ext.setCell ?_ (by first | (dsimp only; omega) | exact LeS.le | exact LeS.add _ | (simp; done) | (simp; omega)) _)))⟩
theorem iActionsValid_any (l : List Actn) (v : Value) (w : World) (h : SL (RF Actn.enc) 4 w v l) :
    Calls Try.prog 147 #[v] w fun e w' => e = .returned (.bool (actsOk l)) ∧ Up w w' := by
  obtain ⟨p, cap, rfl, hlen, hc⟩ := h.open
  clear hc
  unfold actsOk
  rcases hq : decide ((l.length : Int) ≤ 10) with _ | _
  · rw [Bool.false_and]
    go_enter Try.func147, Try.ntmps147
    go_wp2_with fail
    go_ret
    exact ⟨rfl, (.of (by repeat (first | exact Ext.refl _ | refine Ext.up ?_ _ | refine Ext.alloc ?_ _ | refine Ext.drew ?_ | refine Ext.setRow ?_ (by first | (dsimp only; omega) | exact LeS.le | exact LeS.add _ | (simp; done) | (simp; omega)) _ | refine Ext.setCell ?_ (by first | (dsimp only; omega) | exact LeS.le | exact LeS.add _ | (simp; done) | (simp; omega)) _)))⟩
  · rw [Bool.true_and]
    go_enter Try.func147, Try.ntmps147
    go_wp2_with (go_at_call 176; refine (iContainsA_any l _ _ h).mono ?_; rintro e w' ⟨rfl, z, rfl⟩)
    go_ret
    refine ⟨?_, (.of (by repeat (first | exact Ext.refl _ | refine Ext.up ?_ _ | refine Ext.alloc ?_ _ | refine Ext.drew ?_ | refine Ext.setRow ?_ (by first | (dsimp only; omega) | exact LeS.le | exact LeS.add _ | (simp; done) | (simp; omega)) _ | refine Ext.setCell ?_ (by first | (dsimp only; omega) | exact LeS.le | exact LeS.add _ | (simp; done) | (simp; omega)) _)))⟩
    first | rfl | exact congrArg (fun b => Ending.returned (.bool b)) (Bool.not_not _)
end Go.Proofs.Ytknohbdhbjppjaa
namespace Go.Proofs.Ytknohbdhbjppjaa
open Go Go.RowKit Go.Proofs

structure Blk where
  (bf ht vw rt ef : Int)
def Blk.okL (b : Blk) (l : List Actn) : Bool := inR b.bf 0 1000002 && (inR b.rt 0 1000002 && (inR b.ef 0 1000002 && (inR b.ht 0 100 && (inR b.vw 0 1000 && actsOk l))))
theorem guards5 (a b c d e : Bool) : a = false ∨ (a = true ∧ b = false) ∨ (a = true ∧ b = true ∧ c = false) ∨ (a = true ∧ b = true ∧ c = true ∧ d = false) ∨ (a = true ∧ b = true ∧ c = true ∧ d = true ∧ e = false) ∨ (a = true ∧ b = true ∧ c = true ∧ d = true ∧ e = true) := by cases a <;> cases b <;> cases c <;> cases d <;> cases e <;> simp

set_option maxHeartbeats 1000000 in
theorem iBlockValid_any (b : Blk) (l : List Actn) (v : Value) (w : World) (h : SL (RF Actn.enc) 4 w v l) : Calls Try.prog 114 #[.agg #[.int .i64 b.bf, .int .i64 b.ht, .int .i64 b.vw, v, .int .i64 b.rt, .int .i64 b.ef]] w fun e w' => e = .returned (.bool (b.okL l)) ∧ Up w w' := by
  have hs := h
  obtain ⟨p, cap, rfl, _, _⟩ := h.open
  have Hs := Lib.hid hs; clear h hs
  rcases guards5 (inR b.bf 0 1000002) (inR b.rt 0 1000002) (inR b.ef 0 1000002) (inR b.ht 0 100) (inR b.vw 0 1000) with h1 | ⟨h1, h2⟩ | ⟨h1, h2, h3⟩ | ⟨h1, h2, h3, h4⟩ | ⟨h1, h2, h3, h4, h5⟩ | ⟨h1, h2, h3, h4, h5⟩
  all_goals
    go_enter Try.func114, Try.ntmps114
    go_wp2_with (first | (go_at_call 152; refine (isSum_any _ _).mono ?_; rintro e w' ⟨rfl, rfl⟩) | (go_at_call 153; refine (isView_any _ _).mono ?_; rintro e w' ⟨rfl, rfl⟩) | (go_at_call 89; refine (in_any _ _ _ _).mono ?_; rintro e w' ⟨rfl, rfl⟩) | (go_at_call 147; refine (iActionsValid_any l _ _ (Hs.out.up (by repeat (first | exact Ext.refl _ | refine Ext.up ?_ _ | refine Ext.alloc ?_ _ | refine Ext.drew ?_ | refine Ext.setRow ?_ (by first | (dsimp only; omega) | exact LeS.le | exact LeS.add _ | (simp; done) | (simp; omega)) _ | refine Ext.setCell ?_ (by first | (dsimp only; omega) | exact LeS.le | exact LeS.add _ | (simp; done) | (simp; omega)) _)))).mono ?_; rintro e w' ⟨rfl, z, rfl⟩))
    go_ret
    exact ⟨by simp [Blk.okL, *], (.of (by repeat (first | exact Ext.refl _ | refine Ext.up ?_ _ | refine Ext.alloc ?_ _ | refine Ext.drew ?_ | refine Ext.setRow ?_ (by first | (dsimp only; omega) | exact LeS.le | exact LeS.add _ | (simp; done) | (simp; omega)) _ | refine Ext.setCell ?_ (by first | (dsimp only; omega) | exact LeS.le | exact LeS.add _ | (simp; done) | (simp; omega)) _)))⟩
set_option maxHeartbeats 1000000 in
theorem sBlockValid_any (b : Blk) (l : List Actn) (v : Value) (w : World) (h : SL (RF Actn.enc) 4 w v l) : Calls Try.prog 105 #[.agg #[.int .i64 b.bf, .int .i64 b.ht, .int .i64 b.vw, v, .int .i64 b.rt, .int .i64 b.ef]] w fun e w' => e = .returned (.bool (b.okL l)) ∧ Up w w' := by
  have hs := h
  obtain ⟨p, cap, rfl, _, _⟩ := h.open
  have Hs := Lib.hid hs; clear h hs
  rcases guards5 (inR b.bf 0 1000002) (inR b.rt 0 1000002) (inR b.ef 0 1000002) (inR b.ht 0 100) (inR b.vw 0 1000) with h1 | ⟨h1, h2⟩ | ⟨h1, h2, h3⟩ | ⟨h1, h2, h3, h4⟩ | ⟨h1, h2, h3, h4, h5⟩ | ⟨h1, h2, h3, h4, h5⟩
  all_goals
    go_enter Try.func105, Try.ntmps105
    go_wp2_with (first | (go_at_call 84; refine (l1In_any _ _ _ _).mono ?_; rintro e w' ⟨rfl, rfl⟩) | (go_at_call 143; refine (sActionsValid_any l _ _ (Hs.out.up (by repeat (first | exact Ext.refl _ | refine Ext.up ?_ _ | refine Ext.alloc ?_ _ | refine Ext.drew ?_ | refine Ext.setRow ?_ (by first | (dsimp only; omega) | exact LeS.le | exact LeS.add _ | (simp; done) | (simp; omega)) _ | refine Ext.setCell ?_ (by first | (dsimp only; omega) | exact LeS.le | exact LeS.add _ | (simp; done) | (simp; omega)) _)))).mono ?_; rintro e w' ⟨rfl, z, rfl⟩))
    go_ret
    exact ⟨by simp [Blk.okL, *], (.of (by repeat (first | exact Ext.refl _ | refine Ext.up ?_ _ | refine Ext.alloc ?_ _ | refine Ext.drew ?_ | refine Ext.setRow ?_ (by first | (dsimp only; omega) | exact LeS.le | exact LeS.add _ | (simp; done) | (simp; omega)) _ | refine Ext.setCell ?_ (by first | (dsimp only; omega) | exact LeS.le | exact LeS.add _ | (simp; done) | (simp; omega)) _)))⟩
theorem szBlock_any (b : Blk) (l : List Actn) (v : Value) (n : Int) (w : World) (h : SL (RF Actn.enc) 4 w v l) (hn0 : 0 ≤ n) (hn1 : n ≤ 1048576) : Calls Try.prog 52 #[.agg #[.int .i64 b.bf, .int .i64 b.ht, .int .i64 b.vw, v, .int .i64 b.rt, .int .i64 b.ef], .int .i64 n] w fun e w' => e = .returned (.int .i64 (if szOf n l.length < 0 then -1 else szOf n l.length)) ∧ Up w w' := by
  have hs := h
  obtain ⟨p, cap, rfl, _, _⟩ := h.open
  have Hs := Lib.hid hs; clear h hs
  by_cases hz : szOf n l.length < 0
  · rw [if_pos hz]
    go_enter Try.func52, Try.ntmps52
    go_wp2_with (go_at_call 35; refine (szActionS_any l _ _ _ (Hs.out.up (by repeat (first | exact Ext.refl _ | refine Ext.up ?_ _ | refine Ext.alloc ?_ _ | refine Ext.drew ?_ | refine Ext.setRow ?_ (by first | (dsimp only; omega) | exact LeS.le | exact LeS.add _ | (simp; done) | (simp; omega)) _ | refine Ext.setCell ?_ (by first | (dsimp only; omega) | exact LeS.le | exact LeS.add _ | (simp; done) | (simp; omega)) _))) hn0 hn1).mono ?_; rintro e w' ⟨rfl, rfl⟩)
    go_ret
    exact ⟨rfl, (.of (by repeat (first | exact Ext.refl _ | refine Ext.up ?_ _ | refine Ext.alloc ?_ _ | refine Ext.drew ?_ | refine Ext.setRow ?_ (by first | (dsimp only; omega) | exact LeS.le | exact LeS.add _ | (simp; done) | (simp; omega)) _ | refine Ext.setCell ?_ (by first | (dsimp only; omega) | exact LeS.le | exact LeS.add _ | (simp; done) | (simp; omega)) _)))⟩
  · rw [if_neg hz]
    go_enter Try.func52, Try.ntmps52
    go_wp2_with (go_at_call 35; refine (szActionS_any l _ _ _ (Hs.out.up (by repeat (first | exact Ext.refl _ | refine Ext.up ?_ _ | refine Ext.alloc ?_ _ | refine Ext.drew ?_ | refine Ext.setRow ?_ (by first | (dsimp only; omega) | exact LeS.le | exact LeS.add _ | (simp; done) | (simp; omega)) _ | refine Ext.setCell ?_ (by first | (dsimp only; omega) | exact LeS.le | exact LeS.add _ | (simp; done) | (simp; omega)) _))) hn0 hn1).mono ?_; rintro e w' ⟨rfl, rfl⟩)
    go_ret
    exact ⟨rfl, (.of (by repeat (first | exact Ext.refl _ | refine Ext.up ?_ _ | refine Ext.alloc ?_ _ | refine Ext.drew ?_ | refine Ext.setRow ?_ (by first | (dsimp only; omega) | exact LeS.le | exact LeS.add _ | (simp; done) | (simp; omega)) _ | refine Ext.setCell ?_ (by first | (dsimp only; omega) | exact LeS.le | exact LeS.add _ | (simp; done) | (simp; omega)) _)))⟩
set_option maxHeartbeats 1000000 in
theorem eqBlock_same (b : Blk) (l : List Actn) (v v' : Value) (w : World) (h : SL (RF Actn.enc) 4 w v l) (h' : SL (RF Actn.enc) 4 w v' l) : Calls Try.prog 18 #[.agg #[.int .i64 b.bf, .int .i64 b.ht, .int .i64 b.vw, v, .int .i64 b.rt, .int .i64 b.ef], .agg #[.int .i64 b.bf, .int .i64 b.ht, .int .i64 b.vw, v', .int .i64 b.rt, .int .i64 b.ef]] w fun e w' => e = .returned (.bool true) ∧ Up w w' := by
  have hs := h; have hs' := h'
  obtain ⟨p, cap, rfl, _, _⟩ := h.open
  obtain ⟨p', cap', rfl, _, _⟩ := h'.open
  have Hs := Lib.hid hs; have Hs' := Lib.hid hs'; clear h hs h' hs'
  go_enter Try.func18, Try.ntmps18
  go_wp2_with (go_at_call 41; refine (eqActionS_same l _ _ _ (Hs.out.up (by repeat (first | exact Ext.refl _ | refine Ext.up ?_ _ | refine Ext.alloc ?_ _ | refine Ext.drew ?_ | refine Ext.setRow ?_ (by first | (dsimp only; omega) | exact LeS.le | exact LeS.add _ | (simp; done) | (simp; omega)) _ | refine Ext.setCell ?_ (by first | (dsimp only; omega) | exact LeS.le | exact LeS.add _ | (simp; done) | (simp; omega)) _))) (Hs'.out.up (by repeat (first | exact Ext.refl _ | refine Ext.up ?_ _ | refine Ext.alloc ?_ _ | refine Ext.drew ?_ | refine Ext.setRow ?_ (by first | (dsimp only; omega) | exact LeS.le | exact LeS.add _ | (simp; done) | (simp; omega)) _ | refine Ext.setCell ?_ (by first | (dsimp only; omega) | exact LeS.le | exact LeS.add _ | (simp; done) | (simp; omega)) _)))).mono ?_; rintro e w' ⟨rfl, z, rfl⟩)
  go_ret
  exact ⟨rfl, (.of (by repeat (first | exact Ext.refl _ | refine Ext.up ?_ _ | refine Ext.alloc ?_ _ | refine Ext.drew ?_ | refine Ext.setRow ?_ (by first | (dsimp only; omega) | exact LeS.le | exact LeS.add _ | (simp; done) | (simp; omega)) _ | refine Ext.setCell ?_ (by first | (dsimp only; omega) | exact LeS.le | exact LeS.add _ | (simp; done) | (simp; omega)) _)))⟩
end Go.Proofs.Ytknohbdhbjppjaa
namespace Go.Proofs.Ytknohbdhbjppjaa
open Go.ChangeShapes Go.WideShapes Go.ChangeAt Go.RowKit

def RBlk (W : World) (cs : List Value) (x : Blk × List Actn) : Prop := ∃ v, cs = [.int .i64 x.1.bf, .int .i64 x.1.ht, .int .i64 x.1.vw, v, .int .i64 x.1.rt, .int .i64 x.1.ef] ∧ SL (RF Actn.enc) 4 W v x.2
set_option maxRecDepth 100000 in
theorem dec_Block : Dec Try.prog 73 6 RBlk := by
  intro H enc W sp held fuel cs x h
  obtain ⟨hl, hf⟩ := trod_fields Try.underlying73 h
  have hl6 : cs.length = 6 := hl.trans (by kernel_rfl)
  refine ⟨hl6, ?_⟩
  match cs, hl6 with
  | [a, b, c, d, e, f], _ =>
    obtain ⟨n0, y0, h0⟩ := hf 0 _ rfl
    obtain ⟨n1, y1, h1⟩ := hf 1 _ rfl
    obtain ⟨n2, y2, h2⟩ := hf 2 _ rfl
    obtain ⟨n3, y3, h3⟩ := hf 3 _ rfl
    obtain ⟨n4, y4, h4⟩ := hf 4 _ rfl
    obtain ⟨n5, y5, h5⟩ := hf 5 _ rfl
    obtain ⟨_, x0, e0, _⟩ := dec_int Try.underlying3 _ enc W sp held _ _ _ h0
    obtain ⟨_, x1, e1, _⟩ := dec_int Try.underlying3 _ enc W sp held _ _ _ h1
    obtain ⟨_, x2, e2, _⟩ := dec_int Try.underlying3 _ enc W sp held _ _ _ h2
    obtain ⟨_, l, v, e3, hs⟩ := dec_ActionS _ enc W sp held _ _ _ h3
    obtain ⟨_, x4, e4, _⟩ := dec_int Try.underlying3 _ enc W sp held _ _ _ h4
    obtain ⟨_, x5, e5, _⟩ := dec_int Try.underlying3 _ enc W sp held _ _ _ h5
    have c48 : Try.prog.cellsOf 51 = 1 := by kernel_rfl
    simp [Try.c_int] at e0 e1 e2 e4 e5
    simp [c48] at e3
    exact ⟨(⟨x0, x1, x2, x4, x5⟩, l), v, by simp [e0, e1, e2, e3, e4, e5], hs⟩
end Go.Proofs.Ytknohbdhbjppjaa
