/- Walks: blocks. -/
import Derived.Test.YtldmigmnbmnaiaaBlk
namespace Go.Proofs.Ytldmigmnbmnaiaa
open Go Go.RowKit Go.Proofs

structure Blk where
  (bf ht vw rt ef : Int)
def Blk.okL (b : Blk) (l : List Actn) : Bool := inR b.bf 0 1000002 && (inR b.rt 0 1000002 && (inR b.ef 0 1000002 && (inR b.ht 0 100 && (inR b.vw 0 1000 && actsOk l))))
theorem guards5 (a b c d e : Bool) : a = false ∨ (a = true ∧ b = false) ∨ (a = true ∧ b = true ∧ c = false) ∨ (a = true ∧ b = true ∧ c = true ∧ d = false) ∨ (a = true ∧ b = true ∧ c = true ∧ d = true ∧ e = false) ∨ (a = true ∧ b = true ∧ c = true ∧ d = true ∧ e = true) := by cases a <;> cases b <;> cases c <;> cases d <;> cases e <;> simp

end Go.Proofs.Ytldmigmnbmnaiaa
