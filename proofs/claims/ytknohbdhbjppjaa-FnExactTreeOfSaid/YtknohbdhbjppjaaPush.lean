/- Plain ground: append of one element just built. -/
import Derived.Test.YtknohbdhbjppjaaData
namespace Go.Proofs.Ytknohbdhbjppjaa
open Go Go.RowKit

/-- out = append(out, x), x's cells in the block that was made last. -/
theorem wpList_push1 {P : Program} {t e sz bytes : Nat} (F : AppFacts P t e sz bytes) {ops : Array Oper} {rest : List Oper} {o : Oper} {a : Act} {Q : Exit → Act → World → Prop} (hgd : o.guard = none) (s x : Operand)
    (ho : o.op = .call { callee := .builtin .append, args := #[s, x], argTypes := #[t, t] }) {α : Type} (enc : α → List Value) (Wb : World) {W1 : World} {cs : Array Value} {e' : TypeId} (y : α) (l : List α) {v : Value} (hs : a.eval s = v)
    (hown : Own enc e sz Wb.heap.size W1 v l) (hE : Ext Wb W1) {g : Nat} (hx : a.eval x = .slice (some ⟨g, 0, none⟩) 1 1) (hg : g = W1.heap.size) (hcs : cs.toList = enc y) (hl : (enc y).length = sz)
    (h1 : ∀ u ∈ enc y, u.oneCell' = true) (hb : (l.length + 1) * bytes ≤ 140737488355328) (hb' : l.length + 1 ≤ 9223372036854775807)
    (h : ∀ v' (z1 : Extd Wb), Own enc e sz Wb.heap.size z1.val v' (l ++ [y]) → wpList P ops Q rest (a.put o.dst v') z1.val) : wpList P ops Q (o :: rest) a (W1.alloc (.cells cs e')) := by
  subst hg
  refine wpList_push F hgd s x ho enc Wb y l hs (hown.up ((Ext.refl _).alloc _)) (hE.alloc _) hx hl (fun j u hu => ?_) h1 hb hb' h
  have e1 : (⟨W1.heap.size, 0, none⟩ : Addr).add j = ⟨W1.heap.size, j, none⟩ := by unfold Addr.add; split <;> simp_all
  rw [e1, cell_of_row _ W1.heap.size j cs e' (0, 0) (heap_alloc_new W1 _), ← Array.getElem?_toList, hcs]
  exact hu
theorem Own.kept {α : Type} {enc : α → List Value} {e sz lo : Nat} {w w' : World} {v : Value} {l : List α} {row : Option Nat} (h : Own enc e sz lo w v l) (hg : w.grownBy w' row) (hne : v.ownBlock = none ∨ v.ownBlock ≠ row) : Own enc e sz lo w' v l := World.ownsRow.kept h hg hne
/-- Of two slices the one was there before the other was begun: they share no block. -/
theorem Own.apart {α β : Type} {enc : α → List Value} {enc' : β → List Value} {e sz lo e' sz' lo' : Nat} {w w' : World} {v v' : Value} {l : List α} {l' : List β} (h : Own enc e sz lo w v l) (h' : Own enc' e' sz' lo' w' v' l') (hlt : w.heap.size ≤ lo') : v.ownBlock ≠ v'.ownBlock ∨ v.ownBlock = none := by
  cases hv : v.ownBlock with
  | none => exact .inr rfl
  | some k =>
    left
    intro e
    have h1 := (World.ownsRow.lt h k hv).2
    have h2 := (World.ownsRow.lt h' k e.symm).1
    omega
theorem Own.after {α β : Type} {enc : α → List Value} {enc' : β → List Value} {e sz lo e' sz' lo' : Nat} {w w' : World} {v v' : Value} {l : List α} {l' : List β} (h : Own enc e sz lo w v l) (h' : Own enc' e' sz' lo' w' v' l') (hlt : w'.heap.size ≤ lo) : v.ownBlock = none ∨ v.ownBlock ≠ v'.ownBlock := by
  cases hv : v.ownBlock with
  | none => exact .inl rfl
  | some k =>
    right
    intro e
    have h1 := (World.ownsRow.lt h k hv).1
    have h2 := (World.ownsRow.lt h' k e.symm).2
    omega
theorem Own.ext_grown {α : Type} {enc : α → List Value} {e sz lo : Nat} {a w w' : World} {v : Value} {l : List α} (h : Own enc e sz lo w v l) (hE : Ext a w) (hlo : a.heap.size ≤ lo) (hg : w.grownBy w' v.ownBlock) : Ext a w' :=
  hE.grown hg (fun k hk => Nat.le_trans hlo (World.ownsRow.lt h k hk).1)
theorem oneV (x : Ver) : ∀ u ∈ x.enc, u.oneCell' = true := by simp [Ver.enc, Value.oneCell']
theorem oneE (x : Ent) : ∀ u ∈ x.enc, u.oneCell' = true := by simp [Ent.enc, Value.oneCell']
theorem oneA (x : Actn) : ∀ u ∈ x.enc, u.oneCell' = true := by simp [Actn.enc, Value.oneCell']
theorem oneI (x : Int) : ∀ u ∈ encI x, u.oneCell' = true := by simp [encI, Value.oneCell']
end Go.Proofs.Ytknohbdhbjppjaa
