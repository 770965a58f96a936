/- Plain ground for all walks of this seat: worlds that extend each other, slices that read as lists, small facts. No program in sight. Walks: the small functions on numbers. Plain ground: slices of flat elements (each element's cells are given by a function enc): read, and of the call's own; the laws for append and make on them. The flat element types, plain: the cells of each, and the marks that the laws lay. Walks: sizes, copies, comparisons and marks of slices of flat elements (the laws' helpers). Plain ground: append of one element just built. -/
import Derived.WalkKit
import Derived.WalkSpells
import Derived.Lib.Hide
import Derived.Deep.RegionHeld3
import Derived.Deep.LoopGhost
import Derived.LoopTactic
import Derived.Deep.QuietTactic
import Derived.BigQuiet
import Derived.Test.YtnknamddonjnjaaProg
set_option linter.unusedSimpArgs false
set_option linter.unusedVariables false
namespace Go.Proofs.Ytnknamddonjnjaa
open Go Go.RowKit

/-- Nothing that was there has turned; there may be more. -/
def Ext (w w' : World) : Prop := Below w.heap.size w w'
theorem Ext.refl (w : World) : Ext w w := Below.refl _ _
theorem Ext.size {w w' : World} (h : Ext w w') : w.heap.size ≤ w'.heap.size := Below.size h
theorem Ext.trans {a b c : World} (h : Ext a b) (k : Ext b c) : Ext a c := Below.trans h (Below.mono k h.size)
theorem Ext.drew {a b : World} (h : Ext a b) : Ext a b.drew := Below.drew h
theorem Ext.alloc {a b : World} (h : Ext a b) (o : Obj) : Ext a (b.alloc o) := Below.alloc h h.size o
theorem Ext.setCell {a b : World} (h : Ext a b) {p : Addr} (hp : a.heap.size ≤ p.block) (u : Value) : Ext a (b.setCell p u) := Below.setCell h hp u
theorem Ext.setRow {a b : World} (h : Ext a b) {g : Nat} (hg : a.heap.size ≤ g) (cs : Array Value) : Ext a (b.setRow g cs) := by
  unfold Ext at *
  exact Below.trans h ⟨rfl, rfl, rfl, by simp [World.setRow], fun k hk => setRow_other b g k cs (by omega)⟩
theorem Ext.grown {a b c : World} (h : Ext a b) {row : Option Nat} (hg : b.grownBy c row) (hr : ∀ k, row = some k → a.heap.size ≤ k) : Ext a c := Below.grown h hg h.size hr
theorem Ext.cell {w w' : World} (h : Ext w w') {b o : Nat} (hb : b < w.heap.size) : w'.cell? ⟨b, o, none⟩ = w.cell? ⟨b, o, none⟩ := Below.cell h (p := ⟨b, o, none⟩) hb
theorem Ext.some {w w' : World} (h : Ext w w') {p : Addr} {v : Value} (hc : w.cell? p = some v) : w'.cell? p = some v := (Below.cell h (World.block_lt_of_cell? w p hc)).trans hc
theorem Ext.block {w w' : World} (h : Ext w w') {b : Nat} (hb : b < w.heap.size) : w'.heap[b]? = w.heap[b]? := Below.block h b hb

/-- A world that extends W, as a letter of its own: the walk reads W's cells in it by one rule. -/
structure Extd (W : World) where
  val : World
  ext : Ext W val
instance (W : World) : Nonempty (Extd W) := ⟨⟨W, Ext.refl W⟩⟩
/-- Block n is there in w: found by instances, so that the walk's rules on cells want no side proof. -/
class LtS (n : Nat) (w : World) : Prop where
  lt : n < w.heap.size
theorem LtS.via {W0 W : World} (h : W0 = W) : ∀ (n : Nat) [LtS n W], LtS n W0 := fun _ k => h ▸ k
theorem LtS.of_some {w : World} {b o : Nat} {v : Value} (h : w.cell? ⟨b, o, none⟩ = some v) : LtS b w := ⟨World.block_lt_of_cell? w ⟨b, o, none⟩ h⟩
instance LtS.new (w : World) (o : Obj) : LtS w.heap.size (w.alloc o) := ⟨by simp⟩
instance LtS.new1 (n : Nat) (w : World) (o : Obj) [h : LtS n w] : LtS (n + 1) (w.alloc o) := ⟨by have := h.lt; simp; omega⟩
instance LtS.alloc (n : Nat) (w : World) (o : Obj) [h : LtS n w] : LtS n (w.alloc o) := ⟨by have := h.lt; simp; omega⟩
instance LtS.drew (n : Nat) (w : World) [h : LtS n w] : LtS n w.drew := ⟨h.lt⟩
instance LtS.setCell (n : Nat) (w : World) (a : Addr) (v : Value) [h : LtS n w] : LtS n (w.setCell a v) := ⟨by have := h.lt; simpa [World.setCell] using this⟩
instance LtS.up (n : Nat) (w : World) (z : Extd w) [h : LtS n w] : LtS n z.val := ⟨Nat.lt_of_lt_of_le h.lt z.ext.size⟩
/-- w is no greater than W: found by instances. -/
class LeS (w W : World) : Prop where
  le : w.heap.size ≤ W.heap.size
instance LeS.refl (w : World) : LeS w w := ⟨Nat.le_refl _⟩
instance LeS.alloc (w W : World) (o : Obj) [h : LeS w W] : LeS w (W.alloc o) := ⟨by have := h.le; simp; omega⟩
instance LeS.drew (w W : World) [h : LeS w W] : LeS w W.drew := ⟨h.le⟩
instance LeS.setCell (w W : World) (a : Addr) (v : Value) [h : LeS w W] : LeS w (W.setCell a v) := ⟨by have := h.le; simpa [World.setCell] using this⟩
instance LeS.up (w W : World) (z : Extd W) [h : LeS w W] : LeS w z.val := ⟨Nat.le_trans h.le z.ext.size⟩
theorem LeS.add {w W : World} [h : LeS w W] (k : Nat) : w.heap.size ≤ W.heap.size + k := Nat.le_trans h.le (Nat.le_add_right _ _)
theorem Extd.cell {W : World} (z : Extd W) (n i : Nat) [h : LtS n W] : z.val.cell? ⟨n, i, none⟩ = W.cell? ⟨n, i, none⟩ := z.ext.cell h.lt
theorem Extd.frozen {W : World} (z : Extd W) (n i : Nat) [h : LtS n W] : z.val.frozen? ⟨n, i, none⟩ = W.frozen? ⟨n, i, none⟩ := Below.frozen z.ext (p := ⟨n, i, none⟩) h.lt
theorem Extd.row {W : World} (z : Extd W) (n : Nat) [h : LtS n W] : z.val.heap[n]? = W.heap[n]? := z.ext.block h.lt
theorem LtS.cell_alloc {W : World} (o : Obj) (n i : Nat) [h : LtS n W] : (W.alloc o).cell? ⟨n, i, none⟩ = W.cell? ⟨n, i, none⟩ := World.cell?_alloc_lt _ _ _ h.lt
theorem LtS.frozen_alloc {W : World} (o : Obj) (n i : Nat) [h : LtS n W] : (W.alloc o).frozen? ⟨n, i, none⟩ = W.frozen? ⟨n, i, none⟩ := World.frozen?_alloc_old _ _ _ (Nat.ne_of_lt h.lt)
attribute [go_sem] Extd.cell Extd.frozen LtS.cell_alloc LtS.frozen_alloc
/-- w' extends w. -/
def Up (w w' : World) : Prop := ∃ z : Extd w, w' = z.val
theorem Up.of {w w' : World} (h : Ext w w') : Up w w' := ⟨⟨w', h⟩, rfl⟩
theorem Up.ext {w w' : World} (h : Up w w') : Ext w w' := by obtain ⟨z, rfl⟩ := h; exact z.ext
theorem Ext.up {a b : World} (h : Ext a b) (z : Extd b) : Ext a z.val := h.trans z.ext

/-- A callee met in a region that draws its order. -/
theorem Calls.up {P : Program} {f : FuncId} {args : Array Value} {W : World} {z : Extd W} {v : Value} (h : Calls P f args z.val fun e w' => e = .returned v ∧ Up z.val w') :
    Calls P f args z.val fun e w'' => e = .returned v ∧ ∃ z' : Extd W, w'' = z'.val :=
  h.mono fun _ _ ⟨he, hu⟩ => ⟨he, ⟨_, z.ext.trans hu.ext⟩, rfl⟩
theorem Calls.up_same {P : Program} {f : FuncId} {args : Array Value} {W : World} {z : Extd W} {v : Value} (h : Calls P f args z.val fun e w' => e = .returned v ∧ z.val = w') :
    Calls P f args z.val fun e w'' => e = .returned v ∧ ∃ z' : Extd W, w'' = z'.val :=
  h.mono fun _ _ ⟨he, hu⟩ => ⟨he, z, hu.symm⟩
/-- A region that draws its order, whose operations read and whose callees make new memory at most and answer plain values: one walk in the order of the text. -/
theorem wp_region_up {P : Program} {id : Nat} {Q : Exit → Act → World → Prop} {a : Act} {w : World} {l : List Oper} (hm : P.follows .mixedOrders = true) (hB : Region.lexB .any l.toArray = true)
    (h : wpQuiet P l.toArray (fun w' => ∃ z : Extd w, w' = z.val) (fun a' => ∀ w', (∃ z : Extd w, w' = z.val) → Q .normal a' w') l a) : (Code.region id l.toArray true).wp P Q a w :=
  wp_region_quiet (C := fun w' => ∃ z : Extd w, w' = z.val) hm hB ⟨⟨_, (Ext.refl w).drew⟩, rfl⟩ (by simpa using h)

/-- The world at hand under a name. -/
theorem wp_named {P : Program} {c : Code} {Q : Exit → Act → World → Prop} {a : Act} {W : World} (h : ∀ W0, W0 = W → c.wp P Q a W0) : c.wp P Q a W := h W rfl
/-- What a region that draws its order keeps: all that was there as it began. -/
theorem S_start (W0 : World) : (∀ n i, ∀ [LtS n W0], W0.drew.cell? ⟨n, i, none⟩ = W0.cell? ⟨n, i, none⟩) ∧ Ext W0 W0.drew := ⟨fun _ _ _ => rfl, (Below.refl _ _).drew⟩
theorem S_keep {W0 w w' : World} (h : (∀ n i, ∀ [LtS n W0], w.cell? ⟨n, i, none⟩ = W0.cell? ⟨n, i, none⟩) ∧ Ext W0 w) (hE : Ext w w') :
    (∀ n i, ∀ [LtS n W0], w'.cell? ⟨n, i, none⟩ = W0.cell? ⟨n, i, none⟩) ∧ Ext W0 w' :=
  ⟨fun n i _ => Extd.cell ⟨w', h.2.trans hE⟩ n i, h.2.trans hE⟩

theorem S_of_ext {W0 w : World} (h : Ext W0 w) : (∀ n i, ∀ [LtS n W0], w.cell? ⟨n, i, none⟩ = W0.cell? ⟨n, i, none⟩) ∧ Ext W0 w := ⟨fun n i _ => Extd.cell ⟨w, h⟩ n i, h⟩

/-! ### Numbers -/
def inR (n lo hi : Int) : Bool := decide (lo ≤ n) && decide (n ≤ hi)
theorem inR_iff {n lo hi : Int} : inR n lo hi = true ↔ lo ≤ n ∧ n ≤ hi := by simp [inR]
theorem inR_not {n lo hi : Int} : inR n lo hi = false ↔ ¬ (lo ≤ n ∧ n ≤ hi) := by rw [← inR_iff]; simp
/-- cmp.Or of two. -/
def or2 (x y : Int) : Int := if x = 0 then y else x
/-- What is left of a size, -1 for less than nothing. -/
def szOf (n : Int) (len : Nat) : Int := if n - len < 0 then -1 else n - len
theorem szOf_le {n : Int} {len : Nat} (h : ¬ szOf n len < 0) : (len : Int) ≤ n := by unfold szOf at h; split at h <;> omega
theorem ne_cases (a b : Int) : (a ≠ b ∧ (a != b) = true) ∨ (a = b ∧ (a != b) = false) := by by_cases h : a = b <;> simp [h]
/-- Fits into an int. -/
def I64 (n : Int) : Prop := -9223372036854775808 ≤ n ∧ n ≤ 9223372036854775807

/-! ### Guards, one behind the other -/
theorem guards2 (a b : Bool) : a = false ∨ (a = true ∧ b = false) ∨ (a = true ∧ b = true) := by cases a <;> cases b <;> simp
theorem guards3 (a b c : Bool) : a = false ∨ (a = true ∧ b = false) ∨ (a = true ∧ b = true ∧ c = false) ∨ (a = true ∧ b = true ∧ c = true) := by cases a <;> cases b <;> cases c <;> simp
theorem guards4 (a b c d : Bool) : a = false ∨ (a = true ∧ b = false) ∨ (a = true ∧ b = true ∧ c = false) ∨ (a = true ∧ b = true ∧ c = true ∧ d = false) ∨ (a = true ∧ b = true ∧ c = true ∧ d = true) := by cases a <;> cases b <;> cases c <;> cases d <;> simp

/-! ### For all up to a number -/
def upTo (f : Nat → Bool) (k : Nat) : Bool := (List.range k).all f
theorem upTo_zero (f : Nat → Bool) : upTo f 0 = true := rfl
theorem upTo_succ {f : Nat → Bool} {k : Nat} (h : upTo f k = true) (hf : f k = true) : upTo f (k + 1) = true := by simp_all [upTo, List.range_succ]
theorem upTo_false {f : Nat → Bool} {k n : Nat} (hk : k < n) (hf : f k = false) : upTo f n = false := by
  simp only [upTo, List.all_eq_false, List.mem_range]; exact ⟨k, hk, by simp [hf]⟩
theorem upTo_iff {f : Nat → Bool} {n : Nat} : upTo f n = true ↔ ∀ k, k < n → f k = true := by simp [upTo]

theorem getElem?_some_of_lt {α : Type} {l : List α} {k : Nat} (h : k < l.length) : ∃ x, l[k]? = some x := ⟨l[k], by simp [h]⟩

/-! ### Slices that read as lists -/
/-- v reads in w as the list l: n elements of sz cells each, each read by R. -/
def SL {α : Type} (R : World → List Value → α → Prop) (sz : Nat) (w : World) (v : Value) (l : List α) : Prop :=
  ∃ a cap, v = .slice a l.length cap ∧ (l.length ≤ 9223372036854775807 ∧ l.length ≤ cap) ∧
    (l ≠ [] → ∃ b off, a = some ⟨b, off, none⟩ ∧ LtS b w ∧
      ∀ i x, l[i]? = some x → ∃ cs, cs.length = sz ∧ (∀ j u, cs[j]? = some u → w.cell? ⟨b, off + i * sz + j, none⟩ = some u) ∧ R w cs x)

theorem SL.nil {α : Type} (R : World → List Value → α → Prop) (sz : Nat) (w : World) (a : Option Addr) (cap : Nat) : SL R sz w (.slice a 0 cap) [] :=
  ⟨a, cap, rfl, ⟨by simp, Nat.zero_le _⟩, fun h => absurd rfl h⟩

/-- R goes on in a world that extends. -/
def Mono {α : Type} (R : World → List Value → α → Prop) : Prop := ∀ w w' cs x, Ext w w' → R w cs x → R w' cs x

theorem SL.ext {α : Type} {R : World → List Value → α → Prop} (hR : Mono R) {sz : Nat} {w w' : World} {v : Value} {l : List α} (h : SL R sz w v l) (hE : Ext w w') : SL R sz w' v l := by
  obtain ⟨a, cap, hv, hl, hc⟩ := h
  refine ⟨a, cap, hv, hl, fun hne => ?_⟩
  obtain ⟨b, off, ha, hb, hx⟩ := hc hne
  refine ⟨b, off, ha, ⟨Nat.lt_of_lt_of_le hb.lt hE.size⟩, fun i x hi => ?_⟩
  obtain ⟨cs, h1, h2, h3⟩ := hx i x hi
  exact ⟨cs, h1, fun j u hu => hE.some (h2 j u hu), hR _ _ _ _ hE h3⟩
end Go.Proofs.Ytnknamddonjnjaa
namespace Go.Proofs.Ytnknamddonjnjaa
open Go Go.RowKit Go.Proofs
theorem in_any (n lo hi : Int) (w : World) : Calls Try.prog 39 #[.int .i64 n, .int .i64 lo, .int .i64 hi] w fun e w' => e = .returned (.bool (inR n lo hi)) ∧ w = w' := by
  unfold inR
  by_cases h : lo ≤ n
  · go_enter Try.func39, Try.ntmps39
    go_wp2
    go_ret; exact ⟨by simp [h], rfl⟩
  · have h' : decide (lo ≤ n) = false := by simpa using h
    go_enter Try.func39, Try.ntmps39
    go_wp2
    go_ret; exact ⟨by simp, rfl⟩
theorem l1In_any (n lo hi : Int) (w : World) : Calls Try.prog 49 #[.int .i64 n, .int .i64 lo, .int .i64 hi] w fun e w' => e = .returned (.bool (inR n lo hi)) ∧ w = w' := by
  unfold inR
  by_cases h : lo ≤ n
  · go_enter Try.func49, Try.ntmps49
    go_wp2
    go_ret; exact ⟨by simp [h], rfl⟩
  · have h' : decide (lo ≤ n) = false := by simpa using h
    go_enter Try.func49, Try.ntmps49
    go_wp2
    go_ret; exact ⟨by simp, rfl⟩
theorem isKey_any (n : Int) (w : World) : Calls Try.prog 69 #[.int .i64 n] w fun e w' => e = .returned (.bool (inR n 0 31)) ∧ w = w' := by
  go_enter Try.func69, Try.ntmps69
  go_wp2_with (go_at_call 39; refine (in_any _ _ _ _).mono ?_; rintro e w' ⟨rfl, rfl⟩)
  go_ret
  exact ⟨rfl, rfl⟩
theorem isValue_any (n : Int) (w : World) : Calls Try.prog 42 #[.int .i64 n] w fun e w' => e = .returned (.bool (inR n 0 1000000)) ∧ w = w' := by
  go_enter Try.func42, Try.ntmps42
  go_wp2_with (go_at_call 39; refine (in_any _ _ _ _).mono ?_; rintro e w' ⟨rfl, rfl⟩)
  go_ret
  exact ⟨rfl, rfl⟩
theorem isSummed_any (n : Int) (w : World) : Calls Try.prog 58 #[.int .i64 n] w fun e w' => e = .returned (.bool (inR n 0 2000000)) ∧ w = w' := by
  go_enter Try.func58, Try.ntmps58
  go_wp2_with (go_at_call 39; refine (in_any _ _ _ _).mono ?_; rintro e w' ⟨rfl, rfl⟩)
  go_ret
  exact ⟨rfl, rfl⟩
/-- cmp.Or of two. -/
theorem cmpOr2 (x y : Int) (b : Nat) (w : World) (h0 : w.cell? ⟨b, 0, none⟩ = some (.int .i64 x)) (h1 : w.cell? ⟨b, 1, none⟩ = some (.int .i64 y)) :
    Calls Try.prog 75 #[.slice (some ⟨b, 0, none⟩) 2 2] w fun e w' => e = .returned (.int .i64 (or2 x y)) ∧ w = w' := by
  unfold or2
  by_cases hx : x = 0
  · subst hx
    by_cases hy : y = 0
    · subst hy
      go_enter Try.func75, Try.ntmps75
      go_wp2
      refine wp_loop_rounds 3 ?_; rw [rounds_succ]
      go_wp2
      rw [rounds_succ]
      go_wp2
      rw [rounds_succ]
      go_wp2
      go_ret; exact ⟨by simp, rfl⟩
    · have hy' : (y == 0) = false := by simpa using hy
      have hy2 : (y != 0) = true := by simpa using hy
      go_enter Try.func75, Try.ntmps75
      go_wp2
      refine wp_loop_rounds 2 ?_; rw [rounds_succ]
      go_wp2
      rw [rounds_succ]
      go_wp2
      go_ret; exact ⟨by simp, rfl⟩
  · have hy' : (x == 0) = false := by simpa using hx
    have hy2 : (x != 0) = true := by simpa using hx
    go_enter Try.func75, Try.ntmps75
    go_wp2
    refine wp_loop_rounds 1 ?_; rw [rounds_succ]
    go_wp2
    go_ret; exact ⟨by simp [hx], rfl⟩
end Go.Proofs.Ytnknamddonjnjaa
namespace Go.Proofs.Ytnknamddonjnjaa
open Go Go.RowKit

/-- The element's cells are enc's. -/
def RF {α : Type} (enc : α → List Value) (_ : World) (cs : List Value) (x : α) : Prop := cs = enc x
theorem RF.mono {α : Type} (enc : α → List Value) : Mono (RF enc) := fun _ _ _ _ _ h => h

theorem SL.open {α : Type} {enc : α → List Value} {sz : Nat} {w : World} {v : Value} {l : List α} (h : SL (RF enc) sz w v l) :
    ∃ a cap, v = .slice a l.length cap ∧ l.length ≤ 9223372036854775807 ∧ ∀ (k : Nat) x, l[k]? = some x → ∃ b off, a = some ⟨b, off, none⟩ ∧ LtS b w ∧ ∀ j u, (enc x)[j]? = some u → w.cell? ⟨b, off + k * sz + j, none⟩ = some u := by
  obtain ⟨a, cap, hv, hl, hc⟩ := h
  refine ⟨a, cap, hv, hl.1, fun k x hk => ?_⟩
  obtain ⟨b, off, ha, hb, hx⟩ := hc (by intro e; subst e; simp at hk)
  obtain ⟨cs, _, h2, rfl⟩ := hx k x hk
  exact ⟨b, off, ha, hb, h2⟩
/-- .. and the capacity is no less than the length. -/
theorem SL.openc {α : Type} {R : World → List Value → α → Prop} {sz : Nat} {w : World} {v : Value} {l : List α} (h : SL R sz w v l) :
    ∃ a cap, v = .slice a l.length cap ∧ l.length ≤ 9223372036854775807 ∧ l.length ≤ cap := by
  obtain ⟨a, cap, hv, hl, hc⟩ := h
  exact ⟨a, cap, hv, hl.1, hl.2⟩
/-- The first k elements: s[:k]. -/
theorem SL.take {α : Type} {R : World → List Value → α → Prop} {sz : Nat} {w : World} {a : Option Addr} {n cap : Nat} {l : List α} (h : SL R sz w (.slice a n cap) l) {k : Nat} (hk : k ≤ l.length) : SL R sz w (.slice a k cap) (l.take k) := by
  obtain ⟨a', cap', hv, hl, hc⟩ := h
  cases hv
  have e : (l.take k).length = k := by rw [List.length_take]; omega
  refine ⟨a, cap, by rw [e], ⟨by rw [e]; omega, by rw [e]; omega⟩, fun hne => ?_⟩
  obtain ⟨b, off, ha, hb, hx⟩ := hc (by intro e0; subst e0; simp at hne)
  refine ⟨b, off, ha, hb, fun i x hi => hx i x ?_⟩
  have hik : i < k := by have := (List.getElem?_eq_some_iff.1 hi).1; omega
  rwa [List.getElem?_take_of_lt hik] at hi

theorem SL.up {α : Type} {enc : α → List Value} {sz : Nat} {w : World} {v : Value} {l : List α} (h : SL (RF enc) sz w v l) {w' : World} (hE : Ext w w') : SL (RF enc) sz w' v l := h.ext (RF.mono enc) hE

/-- A slice of the call's own, of flat elements. -/
def Own {α : Type} (enc : α → List Value) (e sz lo : Nat) (w : World) (v : Value) (l : List α) : Prop := w.ownsRow lo e sz v l.length (l.flatMap enc)

theorem flatMap_length {α : Type} {enc : α → List Value} {sz : Nat} (he : ∀ x, (enc x).length = sz) (l : List α) : (l.flatMap enc).length = l.length * sz := by
  induction l with
  | nil => simp
  | cons x l ih => simp [ih, he, Nat.add_mul, Nat.add_comm]

theorem flatMap_get {α : Type} {enc : α → List Value} {sz : Nat} (he : ∀ x, (enc x).length = sz) : ∀ {l : List α} {k : Nat} {x : α}, l[k]? = some x → ∀ {j : Nat} {u : Value}, (enc x)[j]? = some u → (l.flatMap enc)[k * sz + j]? = some u
  | [], k, x, h, j, u, _ => by simp at h
  | y :: l, 0, x, h, j, u, hu => by
    simp at h; subst h
    rw [List.flatMap_cons, List.getElem?_append_left (by have := (List.getElem?_eq_some_iff.1 hu).1; omega)]
    simpa using hu
  | y :: l, k + 1, x, h, j, u, hu => by
    simp at h
    rw [List.flatMap_cons, List.getElem?_append_right (by rw [he, Nat.succ_mul]; omega), he, show (k + 1) * sz + j - sz = k * sz + j from by rw [Nat.succ_mul]; omega]
    exact flatMap_get he h hu

theorem Own.sl {α : Type} {enc : α → List Value} {e sz lo : Nat} (he : ∀ x, (enc x).length = sz) {w : World} {v : Value} {l : List α} (h : Own enc e sz lo w v l) : SL (RF enc) sz w v l := by
  rcases h.2 with ⟨rfl, hn⟩ | ⟨g, cap, cur, rfl, hlo, hg, hnc, hcm, hcs, htake⟩
  · have : l = [] := List.eq_nil_of_length_eq_zero hn
    subst this; exact SL.nil _ _ _ _ _
  · refine ⟨_, cap, rfl, ⟨by simp only [maxLen] at hcm; omega, hnc⟩, fun hne => ⟨g, 0, rfl, ⟨(Array.getElem?_eq_some_iff.1 hg).1⟩, fun i x hi => ⟨enc x, he x, fun j u hu => ?_, rfl⟩⟩⟩
    have h1 := flatMap_get he hi hu
    rw [← htake] at h1
    rw [List.getElem?_take] at h1
    split at h1
    · rw [cell_of_row w g _ cur e (0, 0) hg]; simpa using h1
    · cases h1

theorem Own.nil {α : Type} (enc : α → List Value) (e sz lo : Nat) (w : World) : Own enc e sz lo w (.slice none 0 0) [] := World.ownsRow_nil w lo e sz
theorem Own.up {α : Type} {enc : α → List Value} {e sz lo : Nat} {w : World} {v : Value} {l : List α} (h : Own enc e sz lo w v l) {w' : World} (hE : Ext w w') : Own enc e sz lo w' v l := by
  refine ⟨h.1, ?_⟩
  rcases h.2 with h2 | ⟨g, cap, cur, hv, hlo, hg, r⟩
  · exact .inl h2
  · exact .inr ⟨g, cap, cur, hv, hlo, (hE.block (Array.getElem?_eq_some_iff.1 hg).1).trans hg, r⟩
theorem Own.lo {α : Type} {enc : α → List Value} {e sz lo lo' : Nat} {w : World} {v : Value} {l : List α} (h : Own enc e sz lo w v l) (hlo : lo' ≤ lo) : Own enc e sz lo' w v l := by
  refine ⟨h.1, ?_⟩
  rcases h.2 with h2 | ⟨g, cap, cur, hv, h1, r⟩
  · exact .inl h2
  · exact .inr ⟨g, cap, cur, hv, Nat.le_trans hlo h1, r⟩

theorem Own.lit {α : Type} {enc : α → List Value} {e sz lo : Nat} {w : World} {cs : Array Value} {n g : Nat} {l : List α} (hg : g = w.heap.size) (hlo : lo ≤ w.heap.size) (hn : n = l.length) (hcs : cs.toList = l.flatMap enc) (he : ∀ x, (enc x).length = sz) (hm : l.length ≤ 9223372036854775807) :
    Own enc e sz lo (w.alloc (.cells cs e)) (.slice (some ⟨g, 0, none⟩) n n) l := by
  subst hg; subst hn
  have hs : cs.size = l.length * sz := by rw [← Array.length_toList, hcs, flatMap_length he]
  have h := World.ownsRow_lit (base := lo) (e := e) (size := sz) w cs l.length hlo (by simpa [maxLen] using hm) hs
  rw [hcs] at h
  exact h
/-- What append asks of a slice type, once a type. -/
structure AppFacts (P : Program) (t e sz bytes : Nat) : Prop where
  und : P.underlying t = some (.slice e)
  info : ∃ i z, P.info? e = some i ∧ i.zero = some z ∧ i.size = sz ∧ i.bytes = bytes ∧ z.cells.size = sz
  pos : 0 < sz

/-- out = append(out, x): one element more, whatever the capacity. Wb: the world whose blocks stay. -/
theorem wpList_push {P : Program} {t e sz bytes : Nat} (F : AppFacts P t e sz bytes) {ops : Array Oper} {rest : List Oper} {o : Oper} {a : Act} {w : World} {Q : Exit → Act → World → Prop} (hgd : o.guard = none) (s x : Operand)
    (ho : o.op = .call { callee := .builtin .append, args := #[s, x], argTypes := #[t, t] }) {α : Type} (enc : α → List Value) (Wb : World) (y : α) (l : List α) {v : Value} (hs : a.eval s = v)
    (hown : Own enc e sz Wb.heap.size w v l) (hE : Ext Wb w) {ad : Addr} {c : Nat} (hx : a.eval x = .slice (some ad) 1 c) (hl : (enc y).length = sz)
    (hnews : ∀ j u, (enc y)[j]? = some u → w.cell? (ad.add j) = some u) (h1 : ∀ u ∈ enc y, u.oneCell' = true) (hb : (l.length + 1) * bytes ≤ 140737488355328) (hb' : l.length + 1 ≤ 9223372036854775807)
    (h : ∀ v' (z1 : Extd Wb), Own enc e sz Wb.heap.size z1.val v' (l ++ [y]) → wpList P ops Q rest (a.put o.dst v') z1.val) : wpList P ops Q (o :: rest) a w := by
  obtain ⟨i, z, hi, hz, hsize, hby, hzs⟩ := F.info
  refine wpList_append_own w hgd s x t ho Wb.heap.size e i z sz bytes F.und hi hz hsize hby hzs F.pos v l.length (l.flatMap enc) hs hown ad 1 c (enc y) hx (by rw [hl]; omega) hnews h1 (by simpa [maxLen] using hb') hb hE.size ?_
  intro v' w1 hown1 hg _
  refine h v' ⟨w1, hE.grown hg fun k hk => (hown.lt k hk).1⟩ ?_
  show w1.ownsRow _ _ _ _ _ _
  simpa [Own] using hown1

/-! ### A row that is filled element by element -/
def setAll (xs : List Value) (m : Nat) : List Value → List Value
  | [] => xs
  | c :: cs => setAll (xs.set m c) (m + 1) cs
def setAllW (w : World) (g m : Nat) : List Value → World
  | [] => w
  | c :: cs => setAllW (w.setCell ⟨g, m, none⟩ c) g (m + 1) cs
theorem setAll_length (cs : List Value) : ∀ (xs : List Value) (m : Nat), (setAll xs m cs).length = xs.length := by
  induction cs with
  | nil => intro xs m; rfl
  | cons c cs ih => intro xs m; simp [setAll, ih]
theorem setAll_get (cs : List Value) : ∀ (xs : List Value) (m i : Nat), m + cs.length ≤ xs.length → (setAll xs m cs)[i]? = if m ≤ i ∧ i < m + cs.length then cs[i - m]? else xs[i]? := by
  induction cs with
  | nil => intro xs m i _; rw [if_neg (by simp)]; rfl
  | cons c cs ih =>
    intro xs m i h
    simp only [List.length_cons] at h
    rw [setAll, ih _ _ _ (by simp; omega)]
    by_cases h1 : m + 1 ≤ i ∧ i < m + 1 + cs.length
    · rw [if_pos h1, if_pos (by simp; omega), show i - m = i - (m + 1) + 1 from by omega]; simp
    · rw [if_neg h1]
      by_cases h2 : i = m
      · subst h2; rw [if_pos (by simp only [List.length_cons]; omega), Nat.sub_self, List.getElem?_set_self (by omega)]; rfl
      · rw [if_neg (by simp; omega), List.getElem?_set_ne (by omega)]
/-- The first k elements of l stand in xs. -/
def Filled {α : Type} (enc : α → List Value) (sz : Nat) (l : List α) (k : Nat) (xs : List Value) : Prop := ∀ i x, i < k → l[i]? = some x → ∀ j u, (enc x)[j]? = some u → xs[i * sz + j]? = some u
theorem Filled.zero {α : Type} (enc : α → List Value) (sz : Nat) (l : List α) (xs : List Value) : Filled enc sz l 0 xs := fun _ _ h => absurd h (Nat.not_lt_zero _)
theorem Filled.next {α : Type} {enc : α → List Value} {sz : Nat} (he : ∀ x, (enc x).length = sz) {l : List α} {k : Nat} {xs : List Value} {x : α} (hx : l[k]? = some x) (hlen : xs.length = l.length * sz) (h : Filled enc sz l k xs) :
    Filled enc sz l (k + 1) (setAll xs (k * sz) (enc x)) := by
  intro i y hi hy j u hu
  have hj : j < sz := by have := (List.getElem?_eq_some_iff.1 hu).1; rw [he] at this; exact this
  have hk : k < l.length := (List.getElem?_eq_some_iff.1 hx).1
  have hkl : k * sz + sz ≤ xs.length := by rw [hlen, ← Nat.succ_mul]; exact Nat.mul_le_mul_right _ hk
  rw [setAll_get _ _ _ _ (by rw [he]; exact hkl)]
  by_cases hik : i = k
  · subst hik
    rw [hx] at hy; cases hy
    rw [if_pos (by rw [he]; omega), show i * sz + j - i * sz = j from by omega]; exact hu
  · have : i * sz + sz ≤ k * sz := by rw [← Nat.succ_mul]; exact Nat.mul_le_mul_right _ (by omega)
    rw [if_neg (by omega)]; exact h i y (by omega) hy j u hu
theorem Filled.all {α : Type} {enc : α → List Value} {sz : Nat} (he : ∀ x, (enc x).length = sz) {l : List α} {xs : List Value} (hlen : xs.length = l.length * sz) (h : Filled enc sz l l.length xs) : xs = l.flatMap enc := by
  apply List.ext_getElem?
  intro m
  by_cases hm : m < l.length * sz
  · have hsz : 0 < sz := by rcases Nat.eq_zero_or_pos sz with h0 | h0; · subst h0; simp at hm
                            · exact h0
    have hi : m / sz < l.length := Nat.div_lt_of_lt_mul (by rw [Nat.mul_comm]; exact hm)
    obtain ⟨x, hx⟩ := getElem?_some_of_lt hi
    have hj : m % sz < (enc x).length := by rw [he]; exact Nat.mod_lt _ hsz
    obtain ⟨u, hu⟩ := getElem?_some_of_lt hj
    have e : m / sz * sz + m % sz = m := by rw [Nat.mul_comm]; exact Nat.div_add_mod m sz
    have h1 := h _ x hi hx _ u hu
    have h2 := flatMap_get he hx hu
    rw [e] at h1 h2
    rw [h1, h2]
  · rw [List.getElem?_eq_none (by omega), List.getElem?_eq_none (by rw [flatMap_length he]; omega)]

theorem ownsRow_up {base e sz : Nat} {w : World} {v : Value} {n : Nat} {xs : List Value} (h : w.ownsRow base e sz v n xs) {w' : World} (hE : Ext w w') : w'.ownsRow base e sz v n xs := by
  refine ⟨h.1, ?_⟩
  rcases h.2 with h2 | ⟨g, cap, cur, hv, hlo, hg, r⟩
  · exact .inl h2
  · exact .inr ⟨g, cap, cur, hv, hlo, (hE.block (Array.getElem?_eq_some_iff.1 hg).1).trans hg, r⟩
theorem ownsRow_setAll {base e sz g n cap : Nat} (cs : List Value) : ∀ {w : World} {xs : List Value} (m : Nat), w.ownsRow base e sz (.slice (some ⟨g, 0, none⟩) n cap) n xs → (setAllW w g m cs).ownsRow base e sz (.slice (some ⟨g, 0, none⟩) n cap) n (setAll xs m cs) := by
  induction cs with
  | nil => intro w xs m h; exact h
  | cons c cs ih => intro w xs m h; exact ih (m + 1) (h.stored m c).1
theorem Ext.setAll {a : World} {g : Nat} (hg : a.heap.size ≤ g) (cs : List Value) : ∀ {b : World} (m : Nat), Ext a b → Ext a (setAllW b g m cs) := by
  induction cs with
  | nil => intro b m h; exact h
  | cons c cs ih => intro b m h; exact ih (m + 1) (h.setCell hg c)

theorem _root_.Go.World.grownBy.setAll {w : World} {g : Nat} (cs : List Value) : ∀ {wr : World} (m : Nat), w.grownBy wr (some g) → w.grownBy (setAllW wr g m cs) (some g) := by
  induction cs with
  | nil => intro wr m h; exact h
  | cons c cs ih =>
    intro wr m h
    exact ih (m + 1) ⟨h.os, h.tape, h.output, by simpa [World.setCell] using h.size, fun k hk hne => (Below.heap_setCell _ _ _ _ (by intro e; exact hne (by simp [e]))).trans (h.block k hk hne)⟩
/-- make([]T, n). -/
theorem wpList_mk {P : Program} {t e sz bytes : Nat} (F : AppFacts P t e sz bytes) {ops : Array Oper} {rest : List Oper} {o : Oper} {a : Act} {w : World} {Q : Exit → Act → World → Prop} (hgd : o.guard = none) (s x : Operand)
    (ho : o.op = .makeSlice t s x) (n : Nat) (hs : a.eval s = .int .i64 (n : Int)) (hx : a.eval x = .int .i64 (n : Int)) (hb : bytes * n ≤ 281474976710656) (hb' : n ≤ 9223372036854775807) {Wb : World} (hE : Ext Wb w)
    (h : ∀ (z1 : Extd w) xs, z1.val.ownsRow Wb.heap.size e sz (.slice (some ⟨w.heap.size, 0, none⟩) n n) n xs → wpList P ops Q rest (a.put o.dst (.slice (some ⟨w.heap.size, 0, none⟩) n n)) z1.val) : wpList P ops Q (o :: rest) a w := by
  obtain ⟨i, z, hi, hz, hsize, hby, hzs⟩ := F.info
  refine wpList_make_full w hgd s x t ho Wb.heap.size e i z sz F.und hi hz hsize .i64 .i64 _ _ n hs hx rfl rfl (by rw [hby]; exact hb) (by simpa [maxLen] using hb') hE.size ?_
  intro w1 hown1 hg
  exact h ⟨w1, (Ext.refl w).grown hg (fun k hk => by cases hk)⟩ _ hown1
end Go.Proofs.Ytnknamddonjnjaa
namespace Go.Proofs.Ytnknamddonjnjaa
open Go Go.RowKit

def encI (n : Int) : List Value := [.int .i64 n]
theorem encI_length (n : Int) : (encI n).length = 1 := rfl
def encB (b : Bool) : List Value := [.bool b]
theorem encB_length (b : Bool) : (encB b).length = 1 := rfl
def marksI (k : Int) (n : Nat) : List Int := (List.range n).map fun i : Nat => k + (i : Int)
theorem marksI_length (k : Int) (n : Nat) : (marksI k n).length = n := by simp [marksI]
theorem marksI_get {k : Int} {n i : Nat} (h : i < n) : (marksI k n)[i]? = some (k + (i : Int)) := by simp [marksI, h]
structure Ent where
  k : Int
  v : Int
def Ent.enc (x : Ent) : List Value := [.int .i64 x.k, .int .i64 x.v]
theorem Ent.enc_length (x : Ent) : x.enc.length = 2 := rfl
def marksEnt (k : Int) (n : Nat) : List Ent := (List.range n).map fun i : Nat => ⟨k + 2 * (i : Int), k + 2 * (i : Int) + 1⟩
theorem marksEnt_length (k : Int) (n : Nat) : (marksEnt k n).length = n := by simp [marksEnt]
theorem marksEnt_get {k : Int} {n i : Nat} (h : i < n) : (marksEnt k n)[i]? = some ⟨k + 2 * (i : Int), k + 2 * (i : Int) + 1⟩ := by simp [marksEnt, h]
structure Actn where
  kind : Int
  src : Int
  dst : Int
  amt : Int
def Actn.enc (x : Actn) : List Value := [.int .i64 x.kind, .int .i64 x.src, .int .i64 x.dst, .int .i64 x.amt]
theorem Actn.enc_length (x : Actn) : x.enc.length = 4 := rfl
def marksActn (k : Int) (n : Nat) : List Actn := (List.range n).map fun i : Nat => ⟨k + 4 * (i : Int), k + 4 * (i : Int) + 1, k + 4 * (i : Int) + 1 + 1, k + 4 * (i : Int) + 1 + 1 + 1⟩
theorem marksActn_length (k : Int) (n : Nat) : (marksActn k n).length = n := by simp [marksActn]
theorem marksActn_get {k : Int} {n i : Nat} (h : i < n) : (marksActn k n)[i]? = some ⟨k + 4 * (i : Int), k + 4 * (i : Int) + 1, k + 4 * (i : Int) + 1 + 1, k + 4 * (i : Int) + 1 + 1 + 1⟩ := by simp [marksActn, h]
structure Ver where
  k : Int
  b : Int
  v : Int
def Ver.enc (x : Ver) : List Value := [.int .i64 x.k, .int .i64 x.b, .int .i64 x.v]
theorem Ver.enc_length (x : Ver) : x.enc.length = 3 := rfl
def marksVer (k : Int) (n : Nat) : List Ver := (List.range n).map fun i : Nat => ⟨k + 3 * (i : Int), k + 3 * (i : Int) + 1, k + 3 * (i : Int) + 1 + 1⟩
theorem marksVer_length (k : Int) (n : Nat) : (marksVer k n).length = n := by simp [marksVer]
theorem marksVer_get {k : Int} {n i : Nat} (h : i < n) : (marksVer k n)[i]? = some ⟨k + 3 * (i : Int), k + 3 * (i : Int) + 1, k + 3 * (i : Int) + 1 + 1⟩ := by simp [marksVer, h]
structure Crt where
  s : Int
  v : Int
  g : Int
def Crt.enc (x : Crt) : List Value := [.int .i64 x.s, .int .i64 x.v, .int .i64 x.g]
theorem Crt.enc_length (x : Crt) : x.enc.length = 3 := rfl
def marksCrt (k : Int) (n : Nat) : List Crt := (List.range n).map fun i : Nat => ⟨k + 3 * (i : Int), k + 3 * (i : Int) + 1, k + 3 * (i : Int) + 1 + 1⟩
theorem marksCrt_length (k : Int) (n : Nat) : (marksCrt k n).length = n := by simp [marksCrt]
theorem marksCrt_get {k : Int} {n i : Nat} (h : i < n) : (marksCrt k n)[i]? = some ⟨k + 3 * (i : Int), k + 3 * (i : Int) + 1, k + 3 * (i : Int) + 1 + 1⟩ := by simp [marksCrt, h]
end Go.Proofs.Ytnknamddonjnjaa
namespace Go.Proofs.Ytnknamddonjnjaa
open Go Go.RowKit Go.Proofs
theorem fI : AppFacts Try.prog 35 3 1 8 := by
  have h : (Try.prog.info? 3).map (fun i => (i.zero, i.size, i.bytes)) = some (some (.int .i64 0), 1, 8) := by kernel_rfl
  obtain ⟨i0, hi, hz0, hz1, hz2⟩ := info_parts h
  exact ⟨Try.underlying35, ⟨i0, _, hi, hz0, hz1, hz2, rfl⟩, by decide⟩
theorem fEnt : AppFacts Try.prog 23 59 2 16 := by
  have h : (Try.prog.info? 59).map (fun i => (i.zero, i.size, i.bytes)) = some (some (.agg #[.int .i64 0, .int .i64 0]), 2, 16) := by kernel_rfl
  obtain ⟨i0, hi, hz0, hz1, hz2⟩ := info_parts h
  exact ⟨Try.underlying23, ⟨i0, _, hi, hz0, hz1, hz2, rfl⟩, by decide⟩
theorem fActn : AppFacts Try.prog 24 65 4 32 := by
  have h : (Try.prog.info? 65).map (fun i => (i.zero, i.size, i.bytes)) = some (some (.agg #[.int .i64 0, .int .i64 0, .int .i64 0, .int .i64 0]), 4, 32) := by kernel_rfl
  obtain ⟨i0, hi, hz0, hz1, hz2⟩ := info_parts h
  exact ⟨Try.underlying24, ⟨i0, _, hi, hz0, hz1, hz2, rfl⟩, by decide⟩
theorem fVer : AppFacts Try.prog 25 32 3 24 := by
  have h : (Try.prog.info? 32).map (fun i => (i.zero, i.size, i.bytes)) = some (some (.agg #[.int .i64 0, .int .i64 0, .int .i64 0]), 3, 24) := by kernel_rfl
  obtain ⟨i0, hi, hz0, hz1, hz2⟩ := info_parts h
  exact ⟨Try.underlying25, ⟨i0, _, hi, hz0, hz1, hz2, rfl⟩, by decide⟩
end Go.Proofs.Ytnknamddonjnjaa
namespace Go.Proofs.Ytnknamddonjnjaa
open Go Go.RowKit

/-- out = append(out, x), x's cells in the block that was made last. -/
theorem wpList_push1 {P : Program} {t e sz bytes : Nat} (F : AppFacts P t e sz bytes) {ops : Array Oper} {rest : List Oper} {o : Oper} {a : Act} {Q : Exit → Act → World → Prop} (hgd : o.guard = none) (s x : Operand)
    (ho : o.op = .call { callee := .builtin .append, args := #[s, x], argTypes := #[t, t] }) {α : Type} (enc : α → List Value) (Wb : World) {W1 : World} {cs : Array Value} {e' : TypeId} (y : α) (l : List α) {v : Value} (hs : a.eval s = v)
    (hown : Own enc e sz Wb.heap.size W1 v l) (hE : Ext Wb W1) {g : Nat} (hx : a.eval x = .slice (some ⟨g, 0, none⟩) 1 1) (hg : g = W1.heap.size) (hcs : cs.toList = enc y) (hl : (enc y).length = sz)
    (h1 : ∀ u ∈ enc y, u.oneCell' = true) (hb : (l.length + 1) * bytes ≤ 140737488355328) (hb' : l.length + 1 ≤ 9223372036854775807)
    (h : ∀ v' (z1 : Extd Wb), Own enc e sz Wb.heap.size z1.val v' (l ++ [y]) → wpList P ops Q rest (a.put o.dst v') z1.val) : wpList P ops Q (o :: rest) a (W1.alloc (.cells cs e')) := by
  subst hg
  refine wpList_push F hgd s x ho enc Wb y l hs (hown.up ((Ext.refl _).alloc _)) (hE.alloc _) hx hl (fun j u hu => ?_) h1 hb hb' h
  have e1 : (⟨W1.heap.size, 0, none⟩ : Addr).add j = ⟨W1.heap.size, j, none⟩ := by unfold Addr.add; split <;> simp_all
  rw [e1, cell_of_row _ W1.heap.size j cs e' (0, 0) (heap_alloc_new W1 _), ← Array.getElem?_toList, hcs]
  exact hu
theorem Own.kept {α : Type} {enc : α → List Value} {e sz lo : Nat} {w w' : World} {v : Value} {l : List α} {row : Option Nat} (h : Own enc e sz lo w v l) (hg : w.grownBy w' row) (hne : v.ownBlock = none ∨ v.ownBlock ≠ row) : Own enc e sz lo w' v l := World.ownsRow.kept h hg hne
/-- Of two slices the one was there before the other was begun: they share no block. -/
theorem Own.apart {α β : Type} {enc : α → List Value} {enc' : β → List Value} {e sz lo e' sz' lo' : Nat} {w w' : World} {v v' : Value} {l : List α} {l' : List β} (h : Own enc e sz lo w v l) (h' : Own enc' e' sz' lo' w' v' l') (hlt : w.heap.size ≤ lo') : v.ownBlock ≠ v'.ownBlock ∨ v.ownBlock = none := by
  cases hv : v.ownBlock with
  | none => exact .inr rfl
  | some k =>
    left
    intro e
    have h1 := (World.ownsRow.lt h k hv).2
    have h2 := (World.ownsRow.lt h' k e.symm).1
    omega
theorem Own.after {α β : Type} {enc : α → List Value} {enc' : β → List Value} {e sz lo e' sz' lo' : Nat} {w w' : World} {v v' : Value} {l : List α} {l' : List β} (h : Own enc e sz lo w v l) (h' : Own enc' e' sz' lo' w' v' l') (hlt : w'.heap.size ≤ lo) : v.ownBlock = none ∨ v.ownBlock ≠ v'.ownBlock := by
  cases hv : v.ownBlock with
  | none => exact .inl rfl
  | some k =>
    right
    intro e
    have h1 := (World.ownsRow.lt h k hv).1
    have h2 := (World.ownsRow.lt h' k e.symm).2
    omega
theorem Own.ext_grown {α : Type} {enc : α → List Value} {e sz lo : Nat} {a w w' : World} {v : Value} {l : List α} (h : Own enc e sz lo w v l) (hE : Ext a w) (hlo : a.heap.size ≤ lo) (hg : w.grownBy w' v.ownBlock) : Ext a w' :=
  hE.grown hg (fun k hk => Nat.le_trans hlo (World.ownsRow.lt h k hk).1)
theorem oneV (x : Ver) : ∀ u ∈ x.enc, u.oneCell' = true := by simp [Ver.enc, Value.oneCell']
theorem oneE (x : Ent) : ∀ u ∈ x.enc, u.oneCell' = true := by simp [Ent.enc, Value.oneCell']
theorem oneA (x : Actn) : ∀ u ∈ x.enc, u.oneCell' = true := by simp [Actn.enc, Value.oneCell']
theorem oneI (x : Int) : ∀ u ∈ encI x, u.oneCell' = true := by simp [encI, Value.oneCell']
end Go.Proofs.Ytnknamddonjnjaa
