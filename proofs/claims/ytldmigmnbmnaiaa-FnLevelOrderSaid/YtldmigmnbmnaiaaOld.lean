/- Plain ground: a slice made by a callee stays behind stores into older blocks. -/
import Derived.Test.YtldmigmnbmnaiaaPush
import Derived.Test.YtldmigmnbmnaiaaBlk2
namespace Go.Proofs.Ytldmigmnbmnaiaa
open Go Go.RowKit Go.Proofs

theorem grownBy_set (w : World) (a : Addr) (u : Value) : w.grownBy (w.setCell a u) (some a.block) := by
  refine ⟨rfl, rfl, rfl, by simp [World.setCell], fun k hk hne => ?_⟩
  have : a.block ≠ k := fun e => hne (by rw [e])
  simp [World.setCell, Array.getElem?_modify, this]
theorem Own.setOld {α : Type} {enc : α → List Value} {e sz lo : Nat} {w : World} {v : Value} {l : List α} (h : Own enc e sz lo w v l) (a : Addr) (u : Value) (hlt : a.block < lo) : Own enc e sz lo (w.setCell a u) v l := by
  refine h.kept (grownBy_set w a u) ?_
  cases hv : v.ownBlock with
  | none => exact .inl rfl
  | some k =>
    right; intro e
    have h1 := (World.ownsRow.lt h k hv).1
    injection e with e; omega
end Go.Proofs.Ytldmigmnbmnaiaa
