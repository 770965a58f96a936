/- Plain ground for all walks of this seat: worlds that extend each other, slices that read as lists, small facts. No program in sight. -/
import Derived.WalkKit
import Derived.WalkSpells
import Derived.Lib.Hide
import Derived.Deep.RegionHeld3
import Derived.Deep.LoopGhost
import Derived.LoopTactic
import Derived.Deep.QuietTactic
import Derived.BigQuiet
namespace Go.Proofs.Ytknohbdhbjppjaa
open Go Go.RowKit

/-- Nothing that was there has turned; there may be more. -/
def Ext (w w' : World) : Prop := Below w.heap.size w w'
theorem Ext.refl (w : World) : Ext w w := Below.refl _ _
theorem Ext.size {w w' : World} (h : Ext w w') : w.heap.size ≤ w'.heap.size := Below.size h
theorem Ext.trans {a b c : World} (h : Ext a b) (k : Ext b c) : Ext a c := Below.trans h (Below.mono k h.size)
theorem Ext.drew {a b : World} (h : Ext a b) : Ext a b.drew := Below.drew h
theorem Ext.alloc {a b : World} (h : Ext a b) (o : Obj) : Ext a (b.alloc o) := Below.alloc h h.size o
theorem Ext.setCell {a b : World} (h : Ext a b) {p : Addr} (hp : a.heap.size ≤ p.block) (u : Value) : Ext a (b.setCell p u) := Below.setCell h hp u
theorem Ext.setRow {a b : World} (h : Ext a b) {g : Nat} (hg : a.heap.size ≤ g) (cs : Array Value) : Ext a (b.setRow g cs) := by
  unfold Ext at *
  exact Below.trans h ⟨rfl, rfl, rfl, by simp [World.setRow], fun k hk => setRow_other b g k cs (by omega)⟩
theorem Ext.grown {a b c : World} (h : Ext a b) {row : Option Nat} (hg : b.grownBy c row) (hr : ∀ k, row = some k → a.heap.size ≤ k) : Ext a c := Below.grown h hg h.size hr
theorem Ext.cell {w w' : World} (h : Ext w w') {b o : Nat} (hb : b < w.heap.size) : w'.cell? ⟨b, o, none⟩ = w.cell? ⟨b, o, none⟩ := Below.cell h (p := ⟨b, o, none⟩) hb
theorem Ext.some {w w' : World} (h : Ext w w') {p : Addr} {v : Value} (hc : w.cell? p = some v) : w'.cell? p = some v := (Below.cell h (World.block_lt_of_cell? w p hc)).trans hc
theorem Ext.block {w w' : World} (h : Ext w w') {b : Nat} (hb : b < w.heap.size) : w'.heap[b]? = w.heap[b]? := Below.block h b hb

/-- A world that extends W, as a letter of its own: the walk reads W's cells in it by one rule. -/
structure Extd (W : World) where
  val : World
  ext : Ext W val
instance (W : World) : Nonempty (Extd W) := ⟨⟨W, Ext.refl W⟩⟩
/-- Block n is there in w: found by instances, so that the walk's rules on cells want no side proof. -/
class LtS (n : Nat) (w : World) : Prop where
  lt : n < w.heap.size
theorem LtS.via {W0 W : World} (h : W0 = W) : ∀ (n : Nat) [LtS n W], LtS n W0 := fun _ k => h ▸ k
theorem LtS.of_some {w : World} {b o : Nat} {v : Value} (h : w.cell? ⟨b, o, none⟩ = some v) : LtS b w := ⟨World.block_lt_of_cell? w ⟨b, o, none⟩ h⟩
instance LtS.new (w : World) (o : Obj) : LtS w.heap.size (w.alloc o) := ⟨by simp⟩
instance LtS.new1 (n : Nat) (w : World) (o : Obj) [h : LtS n w] : LtS (n + 1) (w.alloc o) := ⟨by have := h.lt; simp; omega⟩
instance LtS.alloc (n : Nat) (w : World) (o : Obj) [h : LtS n w] : LtS n (w.alloc o) := ⟨by have := h.lt; simp; omega⟩
instance LtS.drew (n : Nat) (w : World) [h : LtS n w] : LtS n w.drew := ⟨h.lt⟩
instance LtS.setCell (n : Nat) (w : World) (a : Addr) (v : Value) [h : LtS n w] : LtS n (w.setCell a v) := ⟨by have := h.lt; simpa [World.setCell] using this⟩
instance LtS.up (n : Nat) (w : World) (z : Extd w) [h : LtS n w] : LtS n z.val := ⟨Nat.lt_of_lt_of_le h.lt z.ext.size⟩
/-- w is no greater than W: found by instances. -/
class LeS (w W : World) : Prop where
  le : w.heap.size ≤ W.heap.size
instance LeS.refl (w : World) : LeS w w := ⟨Nat.le_refl _⟩
instance LeS.alloc (w W : World) (o : Obj) [h : LeS w W] : LeS w (W.alloc o) := ⟨by have := h.le; simp; omega⟩
instance LeS.drew (w W : World) [h : LeS w W] : LeS w W.drew := ⟨h.le⟩
instance LeS.setCell (w W : World) (a : Addr) (v : Value) [h : LeS w W] : LeS w (W.setCell a v) := ⟨by have := h.le; simpa [World.setCell] using this⟩
instance LeS.up (w W : World) (z : Extd W) [h : LeS w W] : LeS w z.val := ⟨Nat.le_trans h.le z.ext.size⟩
theorem LeS.add {w W : World} [h : LeS w W] (k : Nat) : w.heap.size ≤ W.heap.size + k := Nat.le_trans h.le (Nat.le_add_right _ _)
theorem Extd.cell {W : World} (z : Extd W) (n i : Nat) [h : LtS n W] : z.val.cell? ⟨n, i, none⟩ = W.cell? ⟨n, i, none⟩ := z.ext.cell h.lt
theorem Extd.frozen {W : World} (z : Extd W) (n i : Nat) [h : LtS n W] : z.val.frozen? ⟨n, i, none⟩ = W.frozen? ⟨n, i, none⟩ := Below.frozen z.ext (p := ⟨n, i, none⟩) h.lt
theorem Extd.row {W : World} (z : Extd W) (n : Nat) [h : LtS n W] : z.val.heap[n]? = W.heap[n]? := z.ext.block h.lt
theorem LtS.cell_alloc {W : World} (o : Obj) (n i : Nat) [h : LtS n W] : (W.alloc o).cell? ⟨n, i, none⟩ = W.cell? ⟨n, i, none⟩ := World.cell?_alloc_lt _ _ _ h.lt
theorem LtS.frozen_alloc {W : World} (o : Obj) (n i : Nat) [h : LtS n W] : (W.alloc o).frozen? ⟨n, i, none⟩ = W.frozen? ⟨n, i, none⟩ := World.frozen?_alloc_old _ _ _ (Nat.ne_of_lt h.lt)
attribute [go_sem] Extd.cell Extd.frozen LtS.cell_alloc LtS.frozen_alloc
/-- w' extends w. -/
def Up (w w' : World) : Prop := ∃ z : Extd w, w' = z.val
theorem Up.of {w w' : World} (h : Ext w w') : Up w w' := ⟨⟨w', h⟩, rfl⟩
theorem Up.ext {w w' : World} (h : Up w w') : Ext w w' := by obtain ⟨z, rfl⟩ := h; exact z.ext
theorem Ext.up {a b : World} (h : Ext a b) (z : Extd b) : Ext a z.val := h.trans z.ext

/-- A callee met in a region that draws its order. -/
theorem Calls.up {P : Program} {f : FuncId} {args : Array Value} {W : World} {z : Extd W} {v : Value} (h : Calls P f args z.val fun e w' => e = .returned v ∧ Up z.val w') :
    Calls P f args z.val fun e w'' => e = .returned v ∧ ∃ z' : Extd W, w'' = z'.val :=
  h.mono fun _ _ ⟨he, hu⟩ => ⟨he, ⟨_, z.ext.trans hu.ext⟩, rfl⟩
theorem Calls.up_same {P : Program} {f : FuncId} {args : Array Value} {W : World} {z : Extd W} {v : Value} (h : Calls P f args z.val fun e w' => e = .returned v ∧ z.val = w') :
    Calls P f args z.val fun e w'' => e = .returned v ∧ ∃ z' : Extd W, w'' = z'.val :=
  h.mono fun _ _ ⟨he, hu⟩ => ⟨he, z, hu.symm⟩
/-- A region that draws its order, whose operations read and whose callees make new memory at most and answer plain values: one walk in the order of the text. -/
theorem wp_region_up {P : Program} {id : Nat} {Q : Exit → Act → World → Prop} {a : Act} {w : World} {l : List Oper} (hm : P.follows .mixedOrders = true) (hB : Region.lexB .any l.toArray = true)
    (h : wpQuiet P l.toArray (fun w' => ∃ z : Extd w, w' = z.val) (fun a' => ∀ w', (∃ z : Extd w, w' = z.val) → Q .normal a' w') l a) : (Code.region id l.toArray true).wp P Q a w :=
  wp_region_quiet (C := fun w' => ∃ z : Extd w, w' = z.val) hm hB ⟨⟨_, (Ext.refl w).drew⟩, rfl⟩ (by simpa using h)

/-- The world at hand under a name. -/
theorem wp_named {P : Program} {c : Code} {Q : Exit → Act → World → Prop} {a : Act} {W : World} (h : ∀ W0, W0 = W → c.wp P Q a W0) : c.wp P Q a W := h W rfl
/-- What a region that draws its order keeps: all that was there as it began. -/
theorem S_start (W0 : World) : (∀ n i, ∀ [LtS n W0], W0.drew.cell? ⟨n, i, none⟩ = W0.cell? ⟨n, i, none⟩) ∧ Ext W0 W0.drew := ⟨fun _ _ _ => rfl, (Below.refl _ _).drew⟩
theorem S_keep {W0 w w' : World} (h : (∀ n i, ∀ [LtS n W0], w.cell? ⟨n, i, none⟩ = W0.cell? ⟨n, i, none⟩) ∧ Ext W0 w) (hE : Ext w w') :
    (∀ n i, ∀ [LtS n W0], w'.cell? ⟨n, i, none⟩ = W0.cell? ⟨n, i, none⟩) ∧ Ext W0 w' :=
  ⟨fun n i _ => Extd.cell ⟨w', h.2.trans hE⟩ n i, h.2.trans hE⟩

theorem S_of_ext {W0 w : World} (h : Ext W0 w) : (∀ n i, ∀ [LtS n W0], w.cell? ⟨n, i, none⟩ = W0.cell? ⟨n, i, none⟩) ∧ Ext W0 w := ⟨fun n i _ => Extd.cell ⟨w, h⟩ n i, h⟩

/-! ### Numbers -/
def inR (n lo hi : Int) : Bool := decide (lo ≤ n) && decide (n ≤ hi)
theorem inR_iff {n lo hi : Int} : inR n lo hi = true ↔ lo ≤ n ∧ n ≤ hi := by simp [inR]
theorem inR_not {n lo hi : Int} : inR n lo hi = false ↔ ¬ (lo ≤ n ∧ n ≤ hi) := by rw [← inR_iff]; simp
/-- cmp.Or of two. -/
def or2 (x y : Int) : Int := if x = 0 then y else x
/-- What is left of a size, -1 for less than nothing. -/
def szOf (n : Int) (len : Nat) : Int := if n - len < 0 then -1 else n - len
theorem szOf_le {n : Int} {len : Nat} (h : ¬ szOf n len < 0) : (len : Int) ≤ n := by unfold szOf at h; split at h <;> omega
theorem ne_cases (a b : Int) : (a ≠ b ∧ (a != b) = true) ∨ (a = b ∧ (a != b) = false) := by by_cases h : a = b <;> simp [h]
/-- Fits into an int. -/
def I64 (n : Int) : Prop := -9223372036854775808 ≤ n ∧ n ≤ 9223372036854775807

/-! ### Guards, one behind the other -/
theorem guards2 (a b : Bool) : a = false ∨ (a = true ∧ b = false) ∨ (a = true ∧ b = true) := by cases a <;> cases b <;> simp
theorem guards3 (a b c : Bool) : a = false ∨ (a = true ∧ b = false) ∨ (a = true ∧ b = true ∧ c = false) ∨ (a = true ∧ b = true ∧ c = true) := by cases a <;> cases b <;> cases c <;> simp
theorem guards4 (a b c d : Bool) : a = false ∨ (a = true ∧ b = false) ∨ (a = true ∧ b = true ∧ c = false) ∨ (a = true ∧ b = true ∧ c = true ∧ d = false) ∨ (a = true ∧ b = true ∧ c = true ∧ d = true) := by cases a <;> cases b <;> cases c <;> cases d <;> simp

/-! ### For all up to a number -/
def upTo (f : Nat → Bool) (k : Nat) : Bool := (List.range k).all f
theorem upTo_zero (f : Nat → Bool) : upTo f 0 = true := rfl
theorem upTo_succ {f : Nat → Bool} {k : Nat} (h : upTo f k = true) (hf : f k = true) : upTo f (k + 1) = true := by simp_all [upTo, List.range_succ]
theorem upTo_false {f : Nat → Bool} {k n : Nat} (hk : k < n) (hf : f k = false) : upTo f n = false := by
  simp only [upTo, List.all_eq_false, List.mem_range]; exact ⟨k, hk, by simp [hf]⟩
theorem upTo_iff {f : Nat → Bool} {n : Nat} : upTo f n = true ↔ ∀ k, k < n → f k = true := by simp [upTo]

theorem getElem?_some_of_lt {α : Type} {l : List α} {k : Nat} (h : k < l.length) : ∃ x, l[k]? = some x := ⟨l[k], by simp [h]⟩

/-! ### Slices that read as lists -/
/-- v reads in w as the list l: n elements of sz cells each, each read by R. -/
def SL {α : Type} (R : World → List Value → α → Prop) (sz : Nat) (w : World) (v : Value) (l : List α) : Prop :=
  ∃ a cap, v = .slice a l.length cap ∧ (l.length ≤ 9223372036854775807 ∧ l.length ≤ cap) ∧
    (l ≠ [] → ∃ b off, a = some ⟨b, off, none⟩ ∧ LtS b w ∧
      ∀ i x, l[i]? = some x → ∃ cs, cs.length = sz ∧ (∀ j u, cs[j]? = some u → w.cell? ⟨b, off + i * sz + j, none⟩ = some u) ∧ R w cs x)

theorem SL.nil {α : Type} (R : World → List Value → α → Prop) (sz : Nat) (w : World) (a : Option Addr) (cap : Nat) : SL R sz w (.slice a 0 cap) [] :=
  ⟨a, cap, rfl, ⟨by simp, Nat.zero_le _⟩, fun h => absurd rfl h⟩

/-- R goes on in a world that extends. -/
def Mono {α : Type} (R : World → List Value → α → Prop) : Prop := ∀ w w' cs x, Ext w w' → R w cs x → R w' cs x

theorem SL.ext {α : Type} {R : World → List Value → α → Prop} (hR : Mono R) {sz : Nat} {w w' : World} {v : Value} {l : List α} (h : SL R sz w v l) (hE : Ext w w') : SL R sz w' v l := by
  obtain ⟨a, cap, hv, hl, hc⟩ := h
  refine ⟨a, cap, hv, hl, fun hne => ?_⟩
  obtain ⟨b, off, ha, hb, hx⟩ := hc hne
  refine ⟨b, off, ha, ⟨Nat.lt_of_lt_of_le hb.lt hE.size⟩, fun i x hi => ?_⟩
  obtain ⟨cs, h1, h2, h3⟩ := hx i x hi
  exact ⟨cs, h1, fun j u hu => hE.some (h2 j u hu), hR _ _ _ _ hE h3⟩
end Go.Proofs.Ytknohbdhbjppjaa
