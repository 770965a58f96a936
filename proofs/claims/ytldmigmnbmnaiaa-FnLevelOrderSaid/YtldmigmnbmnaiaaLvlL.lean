/- Plain laws: levels of actions. -/
import Derived.Test.YtldmigmnbmnaiaaActL
namespace Go.Proofs.Ytldmigmnbmnaiaa
open Go Go.RowKit

theorem common_comm (a b : List Int) : common a b = common b a := by
  rw [Bool.eq_iff_iff]; simp only [common, List.any_eq_true, List.contains_iff_mem]
  exact ⟨fun ⟨n, a, b⟩ => ⟨n, b, a⟩, fun ⟨n, a, b⟩ => ⟨n, b, a⟩⟩
theorem conf_comm (x y : Actn) : conf x y = conf y x := by
  unfold conf
  rw [common_comm x.wk y.wk, common_comm x.wk y.rk, common_comm x.rk y.wk]
  cases common y.wk x.wk <;> cases common y.rk x.wk <;> cases common y.wk x.rk <;> rfl
/-- The level of action k as far as the first j tell. -/
def lvlAt (l : List Actn) (out : List Int) (k : Nat) : Nat → Int
  | 0 => 0
  | j + 1 => match l[j]?, l[k]?, out[j]? with
    | some x, some y, some o => if conf x y = true then max (lvlAt l out k j) (o + 1) else lvlAt l out k j
    | _, _, _ => lvlAt l out k j
theorem lvlAt_yes {l : List Actn} {out : List Int} {k j : Nat} {x y : Actn} {o : Int} (hx : l[j]? = some x) (hy : l[k]? = some y) (ho : out[j]? = some o) (h : conf x y = true) : lvlAt l out k (j + 1) = max (lvlAt l out k j) (o + 1) := by
  simp [lvlAt, hx, hy, ho, h]
theorem lvlAt_no {l : List Actn} {out : List Int} {k j : Nat} {x y : Actn} {o : Int} (hx : l[j]? = some x) (hy : l[k]? = some y) (ho : out[j]? = some o) (h : conf x y = false) : lvlAt l out k (j + 1) = lvlAt l out k j := by
  simp [lvlAt, hx, hy, ho, h]
def lvlTo (l : List Actn) : Nat → List Int
  | 0 => []
  | k + 1 => lvlTo l k ++ [lvlAt l (lvlTo l k) k k]
theorem lvlTo_length (l : List Actn) : ∀ k, (lvlTo l k).length = k
  | 0 => rfl
  | k + 1 => by simp [lvlTo, lvlTo_length l k]
theorem lvlAt_in {l : List Actn} {out : List Int} {k : Nat} (h : ∀ o ∈ out, 0 ≤ o ∧ o ≤ 1000) : ∀ j, 0 ≤ lvlAt l out k j ∧ lvlAt l out k j ≤ 1001
  | 0 => by simp [lvlAt]
  | j + 1 => by
    have ih := lvlAt_in (l := l) (k := k) h j
    unfold lvlAt
    split
    · rename_i x y o hx hy ho
      have := h o (List.mem_of_getElem? ho)
      split <;> omega
    · exact ih
theorem lvlAt_le {l : List Actn} {out : List Int} {k : Nat} (m : Int) (hm : 0 ≤ m) (h : ∀ o ∈ out, 0 ≤ o ∧ o < m) : ∀ j, 0 ≤ lvlAt l out k j ∧ lvlAt l out k j ≤ m
  | 0 => by simp [lvlAt]; omega
  | j + 1 => by
    have ih := lvlAt_le (l := l) (k := k) m hm h j
    unfold lvlAt
    split
    · rename_i x y o hx hy ho
      have := h o (List.mem_of_getElem? ho)
      split <;> omega
    · exact ih
theorem lvlTo_in (l : List Actn) : ∀ k, ∀ o ∈ lvlTo l k, 0 ≤ o ∧ o < (k : Int)
  | 0 => by simp [lvlTo]
  | k + 1 => by
    have ih := lvlTo_in l k
    intro o ho
    rw [lvlTo, List.mem_append, List.mem_singleton] at ho
    rcases ho with ho | ho
    · have := ih o ho; omega
    · have := lvlAt_le (l := l) (out := lvlTo l k) (k := k) (k : Int) (by omega) ih k
      omega
theorem lvlTo_pre (l : List Actn) {k m : Nat} (h : k ≤ m) : (lvlTo l m).take k = lvlTo l k := by
  induction m with
  | zero => obtain rfl : k = 0 := by omega
            rfl
  | succ m ih =>
    by_cases hk : k = m + 1
    · subst hk; exact List.take_of_length_le (by rw [lvlTo_length]; omega)
    · rw [lvlTo, List.take_append_of_le_length (by rw [lvlTo_length]; omega), ih (by omega)]
end Go.Proofs.Ytldmigmnbmnaiaa
