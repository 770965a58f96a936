/- Plain laws: the root of a store. -/
import Derived.Test.YtknohbdhbjppjaaSumL
namespace Go.Proofs.Ytknohbdhbjppjaa
open Go Go.RowKit

def leafOf (key v : Int) : Int := sumL 18 [key, v]
def nodeOf (a b : Int) : Int := sumL 19 [a, b]
/-- The first k leaves. -/
def leafTo (v : List Int) : Nat → List Int
  | 0 => []
  | k + 1 => leafTo v k ++ [leafOf (k : Int) (v.getD k 0)]
theorem leafTo_length (v : List Int) : ∀ k, (leafTo v k).length = k
  | 0 => rfl
  | k + 1 => by simp [leafTo, leafTo_length v k]
/-- The first k sums of the level above. -/
def upTo2 (row : List Int) : Nat → List Int
  | 0 => []
  | k + 1 => upTo2 row k ++ [nodeOf (row.getD (2 * k) 0) (row.getD (2 * k + 1) 0)]
theorem upTo2_length (row : List Int) : ∀ k, (upTo2 row k).length = k
  | 0 => rfl
  | k + 1 => by simp [upTo2, upTo2_length row k]
def lvlUp (row : List Int) : List Int := upTo2 row (row.length / 2)
theorem lvlUp_length (row : List Int) : (lvlUp row).length = row.length / 2 := upTo2_length _ _
/-- Level n of the tree. -/
def treeRow (v : List Int) : Nat → List Int
  | 0 => leafTo v 32
  | n + 1 => lvlUp (treeRow v n)
theorem treeRow_length (v : List Int) : ∀ n, n ≤ 5 → (treeRow v n).length = 32 / 2 ^ n
  | 0, _ => leafTo_length v 32
  | n + 1, h => by
    rw [treeRow, lvlUp_length, treeRow_length v n (by omega), Nat.div_div_eq_div_mul, Nat.pow_succ]
theorem pow_even {n : Nat} (h : n < 5) : 32 / 2 ^ n = 2 * (32 / 2 ^ n / 2) := by
  have : n = 0 ∨ n = 1 ∨ n = 2 ∨ n = 3 ∨ n = 4 := by omega
  rcases this with rfl | rfl | rfl | rfl | rfl <;> rfl
theorem treeRow_even (v : List Int) {n : Nat} (h : n < 5) : (treeRow v n).length = 2 * ((treeRow v n).length / 2) := by
  rw [treeRow_length v n (by omega)]; exact pow_even h
theorem leafOf_in (key v : Int) : 0 ≤ leafOf key v ∧ leafOf key v < 1000003 := sumL_in (by decide) (by decide) _
theorem nodeOf_in (a b : Int) : 0 ≤ nodeOf a b ∧ nodeOf a b < 1000003 := sumL_in (by decide) (by decide) _
theorem leafTo_in (v : List Int) : ∀ k, ∀ x ∈ leafTo v k, 0 ≤ x ∧ x < 1000003
  | 0 => by simp [leafTo]
  | k + 1 => by
    intro x hx
    rw [leafTo, List.mem_append, List.mem_singleton] at hx
    rcases hx with hx | rfl
    · exact leafTo_in v k x hx
    · exact leafOf_in _ _
theorem upTo2_in (row : List Int) : ∀ k, ∀ x ∈ upTo2 row k, 0 ≤ x ∧ x < 1000003
  | 0 => by simp [upTo2]
  | k + 1 => by
    intro x hx
    rw [upTo2, List.mem_append, List.mem_singleton] at hx
    rcases hx with hx | rfl
    · exact upTo2_in row k x hx
    · exact nodeOf_in _ _
theorem treeRow_in (v : List Int) (n : Nat) : ∀ x ∈ treeRow v n, 0 ≤ x ∧ x < 1000003 := by
  cases n with
  | zero => exact leafTo_in v 32
  | succ n => exact upTo2_in _ _
def rootV (v : List Int) : Int := (treeRow v 5).getD 0 0
def rootOf (s : List Ent) : Int := if entsOk 1 s = true then rootV (valsOf s) else -1
theorem rootOf_no {s : List Ent} (h : entsOk 1 s = false) : rootOf s = -1 := by unfold rootOf; rw [h]; rfl
theorem rootOf_yes {s : List Ent} (h : entsOk 1 s = true) : rootOf s = rootV (valsOf s) := by unfold rootOf; rw [h]; rfl
theorem getD_of {l : List Int} {k : Nat} {x : Int} (h : l[k]? = some x) : l.getD k 0 = x := by simp [List.getD, h]
theorem summed_two {a b : Int} (ha : 0 ≤ a ∧ a ≤ 2000000) (hb : 0 ≤ b ∧ b ≤ 2000000) : summed [a, b] = true := by
  rw [summed_iff]; intro n hn; simp at hn; rcases hn with rfl | rfl; exact ha; exact hb
end Go.Proofs.Ytknohbdhbjppjaa
