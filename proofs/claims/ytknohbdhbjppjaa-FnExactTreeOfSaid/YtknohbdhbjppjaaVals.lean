/- Plain ground: arrays of numbers, one block each. -/
import Derived.Test.YtknohbdhbjppjaaStoL
import Derived.Laws.Rows
namespace Go.Proofs.Ytknohbdhbjppjaa
open Go Go.RowKit

def vA (v : List Int) : Array Value := (v.map (Value.int .i64)).toArray
theorem vA_size (v : List Int) : (vA v).size = v.length := by simp [vA]
theorem vA_get (v : List Int) (i : Nat) : (vA v)[i]? = v[i]?.map (Value.int .i64) := by simp [vA]
theorem vA_some {v : List Int} {i : Nat} {x : Int} (h : v[i]? = some x) : (vA v)[i]? = some (.int .i64 x) := by rw [vA_get, h]; rfl
theorem vA_one (v : List Int) : (vA v).all (·.oneCell') = true := by
  rw [Array.all_eq_true_iff_forall_mem]
  intro u hu
  simp only [vA, List.mem_toArray, List.mem_map] at hu
  obtain ⟨x, _, rfl⟩ := hu; rfl
/-- Block g holds the numbers v. -/
def Row (t : TypeId) (w : World) (g : Nat) (v : List Int) : Prop := w.heap[g]? = some (.cells (vA v) t (0, 0))
theorem Row.eq {t : TypeId} {w : World} {g : Nat} {v : List Int} (h : Row t w g v) : w.heap[g]? = some (.cells (vA v) t (0, 0)) := h
theorem Row.lt {t : TypeId} {w : World} {g : Nat} {v : List Int} (h : Row t w g v) : g < w.heap.size := (Array.getElem?_eq_some_iff.1 h).1
theorem Row.lts {t : TypeId} {w : World} {g : Nat} {v : List Int} (h : Row t w g v) : LtS g w := ⟨h.lt⟩
theorem Row.new (t : TypeId) (w : World) (v : List Int) : Row t (w.alloc (.cells (vA v) t)) w.heap.size v := heap_alloc_new w _
theorem Row.of_eq {t : TypeId} {w : World} {g : Nat} {cs : Array Value} {v : List Int} (h : w.heap[g]? = some (.cells cs t (0, 0))) (e : cs = vA v) : Row t w g v := by subst e; exact h
theorem Row.up {t : TypeId} {w w' : World} {g : Nat} {v : List Int} (h : Row t w g v) (hE : Ext w w') : Row t w' g v := (hE.block h.lt).trans h
theorem Row.cell {t : TypeId} {w : World} {g : Nat} {v : List Int} (h : Row t w g v) {i : Nat} {x : Int} (hx : v[i]? = some x) : w.cell? ⟨g, i, none⟩ = some (.int .i64 x) := by
  rw [cell_of_row w g i _ t (0, 0) h]; exact vA_some hx
theorem Row.frozen {t : TypeId} {w : World} {g : Nat} {v : List Int} (h : Row t w g v) (i : Nat) : w.frozen? ⟨g, i, none⟩ = false := frozen_of_row w g i _ t h
theorem vA_set (v : List Int) (i : Nat) (x : Int) : (vA v).setIfInBounds i (.int .i64 x) = vA (v.set i x) := by simp [vA]
theorem Row.set {t : TypeId} {w : World} {g : Nat} {v : List Int} (h : Row t w g v) (i : Nat) (x : Int) : Row t (w.setCell ⟨g, i, none⟩ (.int .i64 x)) g (v.set i x) := by
  unfold Row
  rw [heap_setCell_same w g i _ t _ h, vA_set]
theorem Row.other {t : TypeId} {w : World} {g : Nat} {v : List Int} (h : Row t w g v) {p : Addr} (u : Value) (hne : g ≠ p.block) : Row t (w.setCell p u) g v := (heap_setCell_other w p g u hne).trans h
theorem Row.alloc {t : TypeId} {w : World} {g : Nat} {v : List Int} (h : Row t w g v) (o : Obj) : Row t (w.alloc o) g v := h.up ((Ext.refl w).alloc o)
theorem Row.drew {t : TypeId} {w : World} {g : Nat} {v : List Int} (h : Row t w g v) : Row t w.drew g v := h
theorem Row.setRow {t : TypeId} {w : World} {g : Nat} {v : List Int} (h : Row t w g v) (v' : List Int) : Row t (w.setRow g (vA v')) g v' := setRow_heap w g _ _ t _ h
theorem run_index_vA {P : Program} {t e : TypeId} {n : Nat} (ht : P.underlying t = some (.array n e)) (he : P.underlying e = some (.int .i64)) (hs : (P.info? e).map (·.size) = some 1) {v : List Int} {i : Int} {x : Int} (h0 : 0 ≤ i) (hi : i < n) (hx : v[i.toNat]? = some x) (w : World) :
    (Instr.index t (.agg (vA v)) (.int .i64 i)).run P w = .ok (.int .i64 x) w := by
  have hx' := vA_some hx
  cases hq : P.info? e with
  | none => simp [hq] at hs
  | some info =>
    have h1 : info.size = 1 := by simpa [hq] using hs
    simp [Instr.index, asIntOf, run_underlying ht, run_underlying he, part, isAgg, sizeOf, typeInfo, Sem.run_bind, hq, h1, h0, hi, hx', go_sem]
/-- A whole array is stored into the block that was made last. -/
theorem wpList_store_new {P : Program} {ops : Array Oper} {rest : List Oper} {o : Oper} {a : Act} {W1 : World} {Q : Exit → Act → World → Prop} (hgd : o.guard = none) (ty : TypeId) (x y : Operand) (ho : o.op = .store ty x y)
    {g : Nat} {v : List Int} (hx : a.eval x = .pointer (some ⟨g, 0, none⟩)) (hy : a.eval y = .agg (vA v)) {t : TypeId} {old : Array Value} (hg : g = W1.heap.size)
    (hi : (P.info? ty).map (·.size) = some v.length) (hold : old.size = v.length)
    (h : ∀ z1 : Extd W1, Row t z1.val W1.heap.size v → wpList P ops Q rest (a.put o.dst undef) z1.val) : wpList P ops Q (o :: rest) a (W1.alloc (.cells old t)) := by
  subst hg
  have h0 : (W1.alloc (.cells old t)).heap[W1.heap.size]? = some (.cells old t (0, 0)) := heap_alloc_new _ _
  refine wpList_store_row hgd ty x y ho _ (vA v) hx hy t old h0 (by rw [vA_size]; exact hi) (by rw [vA_size]; exact hold) (vA_one v) ?_
  exact h ⟨_, ((Ext.refl W1).alloc _).setRow (Nat.le_refl _) _⟩ (setRow_heap _ _ _ _ t _ h0)
end Go.Proofs.Ytknohbdhbjppjaa
