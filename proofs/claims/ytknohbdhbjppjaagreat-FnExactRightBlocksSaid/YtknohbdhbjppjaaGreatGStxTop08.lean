/- Walks: drawn lists of actions. Plain ground: for the walk of what an action does. Plain ground: the operations of a region, one by one. -/
import Derived.Test.YtknohbdhbjppjaaGreatGStxTop07
import Derived.Test.YtknohbdhbjppjaaGreatGStxTop05
import Derived.Test.YtknohbdhbjppjaaGreatGStxTop03
import Derived.Deep.RegionLaw
set_option linter.unusedSimpArgs false
set_option linter.unusedVariables false
namespace Go.Proofs.YtknohbdhbjppjaaGreat
open Go Go.RowKit Go.Proofs

theorem Own.ne_rb {α : Type} {enc : α → List Value} {e sz lo rb : Nat} {w : World} {v : Value} {l : List α} (h : Own enc e sz lo w v l) (hlt : rb < lo) : v.ownBlock = none ∨ v.ownBlock ≠ some rb := by
  cases hv : v.ownBlock with
  | none => exact .inl rfl
  | some k =>
    right; intro e
    have h1 := (World.ownsRow.lt h k hv).1
    cases e; omega
theorem Own.upR {α : Type} {enc : α → List Value} {e sz lo rb : Nat} {W : World} {v : Value} {l : List α} (h : Own enc e sz lo W v l) (hlt : rb < lo) (z : ExtR rb W) : Own enc e sz lo z.val v l := Own.kept h z.grown (h.ne_rb hlt)
theorem rd_push {α : Type} {enc : α → List Value} {e sz lo rb : Nat} {lim : Int} {w0 w W1 w7 : World} {o : Obj} {v : Value} {l : List α} (hR : Rd w0 W1 rb lim) (hG : w.grownBy W1 (some rb)) (hown : Own enc e sz lo W1 v l) (hlo : rb < lo) (hw : w.heap.size ≤ lo) (hE : Ext w0 w7) (g7 : (W1.alloc o).grownBy w7 v.ownBlock) :
    Rd w0 w7 rb lim ∧ (∃ z : ExtR rb w, w7 = z.val) := by
  have h1 : W1.heap.size ≤ (W1.alloc o).heap.size := by simp
  refine ⟨(hR.alloc o).grown hE (g7.block rb (Nat.lt_of_lt_of_le hR.lt h1) (fun e => ?_)), ExtR.of ?_⟩
  · rcases hown.ne_rb hlo with h | h
    · rw [h] at e; cases e
    · exact h e.symm
  · have hG2 := GB.alloc hG o
    refine ⟨g7.os.trans hG2.os, g7.tape.trans hG2.tape, g7.output.trans hG2.output, Nat.le_trans hG2.size g7.size, fun n hn hne => ?_⟩
    refine (g7.block n (Nat.lt_of_lt_of_le hn hG2.size) (fun e => ?_)).trans (hG2.block n hn hne)
    have := (World.ownsRow.lt hown n e.symm).1
    omega
theorem oneAs (l : List Actn) : ∀ u ∈ l.flatMap Actn.enc, u.oneCell' = true := by
  intro u hu
  obtain ⟨x, _, h⟩ := List.mem_flatMap.1 hu
  exact oneA x u h
end Go.Proofs.YtknohbdhbjppjaaGreat
namespace Go.Proofs.YtknohbdhbjppjaaGreat
open Go Go.RowKit Go.Proofs

theorem rds_take {x : Actn} {f t key : Int} {k : Nat} (h : x.rk[k]? = some key) : (x.rds f t).take (k + 1) = (x.rds f t).take k ++ [⟨key, if key = x.src then f else t⟩] := by
  rw [List.take_add_one]
  unfold Actn.rds
  rw [List.getElem?_map, h]
  rfl
theorem rds_len (x : Actn) (f t : Int) : (x.rds f t).length = x.rk.length := by unfold Actn.rds; rw [List.length_map]
theorem oneEs' (l : List Ent) : ∀ u ∈ l.flatMap Ent.enc, u.oneCell' = true := by
  intro u hu
  obtain ⟨x, _, h⟩ := List.mem_flatMap.1 hu
  exact oneE x u h
theorem row3 (w : World) (a b c : Obj) : (((w.alloc a).alloc b).alloc c).heap[w.heap.size + 1 + 1]? = some c ∧ (((w.alloc a).alloc b).alloc c).heap[w.heap.size + 1]? = some b := by
  have e : (w.alloc a).heap.size = w.heap.size + 1 := by simp
  have h1 := heap_alloc2_new (w.alloc a) b c
  have h2 := heap_alloc2_old (w.alloc a) b c
  rw [e] at h1 h2
  exact ⟨h1, h2⟩
theorem Own.setLo {α : Type} {enc : α → List Value} {e sz lo : Nat} {w : World} {v : Value} {l : List α} (h : Own enc e sz lo w v l) {g i : Nat} {u : Value} (hg : g < lo) : Own enc e sz lo (w.setCell ⟨g, i, none⟩ u) v l := h.setOld _ u hg
theorem Own.alloc {α : Type} {enc : α → List Value} {e sz lo : Nat} {w : World} {v : Value} {l : List α} (h : Own enc e sz lo w v l) {o : Obj} : Own enc e sz lo (w.alloc o) v l := h.up ((Ext.refl _).alloc _)
theorem keepRow {α : Type} {enc : α → List Value} {e sz lo rb : Nat} {w W1 w7 : World} {v : Value} {l : List α} {o r : Obj} (hG : w.grownBy W1 (some rb)) (hown : Own enc e sz lo W1 v l) (hlt : rb < lo) (hw : w.heap.size ≤ lo) (hr : W1.heap[rb]? = some r) (g7 : (W1.alloc o).drew.grownBy w7 v.ownBlock) :
    w7.heap[rb]? = some r ∧ w.grownBy w7 (some rb) := by
  have hs : rb < W1.heap.size := (Array.getElem?_eq_some_iff.1 hr).1
  have g8 : (W1.alloc o).grownBy w7 v.ownBlock := grownBy_trans (grownBy_ext (Ext.refl _).drew) g7
  constructor
  · refine (g8.block rb (by simp; omega) (fun e => ?_)).trans ((heap_alloc_old W1 o hs).trans hr)
    rcases hown.ne_rb hlt with h | h
    · rw [h] at e; cases e
    · exact h e.symm
  · have hG2 := GB.alloc hG o
    refine ⟨g8.os.trans hG2.os, g8.tape.trans hG2.tape, g8.output.trans hG2.output, Nat.le_trans hG2.size g8.size, fun n hn hne => ?_⟩
    refine (g8.block n (Nat.lt_of_lt_of_le hn hG2.size) (fun e => ?_)).trans (hG2.block n hn hne)
    have := (World.ownsRow.lt hown n e.symm).1
    omega
theorem Apart.of_lt {α β : Type} {enc : α → List Value} {enc' : β → List Value} {e sz lo e' sz' lo' : Nat} {w w' : World} {v v' : Value} {l : List α} {l' : List β} (h : Own enc e sz lo w v l) (h' : Own enc' e' sz' lo' w' v' l') (hlt : w.heap.size ≤ lo') : Apart v v' := by
  rcases Own.apart h h' hlt with h | h
  · exact .inr h
  · exact .inl h
/-- One entry into one. -/
theorem put_one (a t b f : Int) : putF false b f [⟨a, t⟩] = if a = b then [⟨b, f⟩] else sort2 ⟨a, t⟩ ⟨b, f⟩ := by
  unfold putF putTo2 sort2
  simp only [List.foldl_cons, List.foldl_nil, putStep]
  rcases Int.lt_trichotomy a b with h | h | h
  · have h1 : ¬ b ≤ a := by omega
    have h2 : a ≠ b := by omega
    simp [h, h1, h2]
  · subst h; simp
  · have h1 : b ≤ a := by omega
    have h2 : a ≠ b := by omega
    have h3 : ¬ a < b := by omega
    simp [h1, h2, h3]
end Go.Proofs.YtknohbdhbjppjaaGreat
namespace Go.Proofs.YtknohbdhbjppjaaGreat
open Go Go.RowKit Go.Proofs

theorem opAt {l : List Oper} {i : Nat} {o : Oper} (h : l[i]? = some o) : l.toArray[i]? = some o := by
  rw [List.getElem?_toArray]
  exact h
end Go.Proofs.YtknohbdhbjppjaaGreat
