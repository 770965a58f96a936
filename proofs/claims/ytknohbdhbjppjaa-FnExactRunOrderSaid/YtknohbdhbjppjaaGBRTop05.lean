/- Plain ground: append where other slices of the call's own lie beside: which block was written. Plain ground: arrays of numbers, one block each. Walks: stores and the values of all keys. -/
import Derived.Test.YtknohbdhbjppjaaGBRTop04
import Derived.Maps.AppendAt
import Derived.Deep.AppendLies
import Derived.Laws.Rows
import Derived.Test.YtknohbdhbjppjaaGBRTop01
import Derived.Test.YtknohbdhbjppjaaGBRTop02
set_option linter.unusedSimpArgs false
set_option linter.unusedVariables false
namespace Go.Proofs.Ytknohbdhbjppjaa
open Go Go.RowKit

/-- Two slices share no block. -/
def Apart (v v' : Value) : Prop := v.ownBlock = none ∨ v.ownBlock ≠ v'.ownBlock
theorem Apart.symm {v v' : Value} (h : Apart v v') : Apart v' v := by
  unfold Apart at *
  cases hv : v'.ownBlock with
  | none => exact .inl rfl
  | some k =>
    right
    rcases h with h | h
    · rw [h]; simp
    · rw [hv] at h; exact fun e => h e.symm
theorem Apart.nil (v : Value) (n c : Nat) : Apart (.slice none n c) v := .inl rfl
theorem Apart.nil' (v : Value) (n c : Nat) : Apart v (.slice none n c) := (Apart.nil v n c).symm
/-- What was grown keeps what lies apart. -/
theorem Own.keep {α : Type} {enc : α → List Value} {e sz lo : Nat} {w w' : World} {v v0 : Value} {l : List α} (h : Own enc e sz lo w v l) (hg : w.grownBy w' v0.ownBlock) (ha : Apart v v0) : Own enc e sz lo w' v l := Own.kept h hg ha
/-- A slice that was there lies apart from what an append gives, if it lay apart from what was appended to. -/
theorem Apart.grown {α : Type} {enc : α → List Value} {e sz lo : Nat} {w : World} {v v0 v1 : Value} {l : List α} (h : Own enc e sz lo w v l) (ha : Apart v v0) {n : Nat} (hn : w.heap.size ≤ n) (hb : v1.ownBlock = v0.ownBlock ∨ v1.ownBlock = some n) : Apart v v1 := by
  unfold Apart at *
  rcases hb with hb | hb
  · rw [hb]; exact ha
  · cases hv : v.ownBlock with
    | none => exact .inl rfl
    | some k =>
      right; rw [hb]; intro e
      have := (World.ownsRow.lt h k hv).2
      simp only [Option.some.injEq] at e
      omega
/-- A slice made new lies apart from what was there. -/
theorem Apart.lit {α : Type} {enc : α → List Value} {e sz lo : Nat} {w : World} {v : Value} {l : List α} (h : Own enc e sz lo w v l) {g n c : Nat} (hg : w.heap.size ≤ g) : Apart v (.slice (some ⟨g, 0, none⟩) n c) := by
  unfold Apart
  cases hv : v.ownBlock with
  | none => exact .inl rfl
  | some k =>
    right; intro e
    have := (World.ownsRow.lt h k hv).2
    have e' : k = g := by simpa [Value.ownBlock] using e
    omega
theorem wpList_pushG {P : Program} {t e sz bytes : Nat} (F : AppFacts P t e sz bytes) {ops : Array Oper} {rest : List Oper} {o : Oper} {a : Act} {Q : Exit → Act → World → Prop} (hgd : o.guard = none) (s x : Operand)
    (ho : o.op = .call { callee := .builtin .append, args := #[s, x], argTypes := #[t, t] }) {α : Type} (enc : α → List Value) (he : ∀ x, (enc x).length = sz) (Wb : World) {lo : Nat} {W1 : World} {cs : Array Value} {e' : TypeId} (ys : List α) (l : List α) {v : Value} (hs : a.eval s = v)
    (hown : Own enc e sz lo W1 v l) (hE : Ext Wb W1) (hlo : Wb.heap.size ≤ lo) (hlo' : lo ≤ W1.heap.size) {g m c : Nat} (hx : a.eval x = .slice (some ⟨g, 0, none⟩) m c) (hm : m = ys.length) (hg : g = W1.heap.size) (hcs : cs.toList = ys.flatMap enc)
    (h1 : ∀ u ∈ ys.flatMap enc, u.oneCell' = true) (hb : (l.length + ys.length) * bytes ≤ 140737488355328) (hb' : l.length + ys.length ≤ 9223372036854775807)
    (h : ∀ v' (z1 : Extd Wb), Own enc e sz lo z1.val v' (l ++ ys) → (W1.alloc (.cells cs e')).grownBy z1.val v.ownBlock → (v'.ownBlock = v.ownBlock ∨ v'.ownBlock = some (W1.alloc (.cells cs e')).heap.size) → wpList P ops Q rest (a.put o.dst v') z1.val) : wpList P ops Q (o :: rest) a (W1.alloc (.cells cs e')) := by
  subst hg; subst hm
  obtain ⟨i, z, hi, hz, hsize, hby, hzs⟩ := F.info
  have hown' : (W1.alloc (.cells cs e')).ownsRow lo e sz v l.length (l.flatMap enc) := hown.up ((Ext.refl _).alloc _)
  have hE' := hE.alloc (.cells cs e')
  refine wpList_append_own_at _ hgd s x t ho lo e i z sz bytes F.und hi hz hsize hby hzs F.pos v l.length (l.flatMap enc) hs hown' ⟨W1.heap.size, 0, none⟩ ys.length c (ys.flatMap enc) hx (flatMap_length he ys) (fun j u hu => ?_) h1 (by simpa [maxLen] using hb') hb (by simp; omega) ?_
  · have e1 : (⟨W1.heap.size, 0, none⟩ : Addr).add j = ⟨W1.heap.size, j, none⟩ := by unfold Addr.add; split <;> simp_all
    rw [e1, cell_of_row _ W1.heap.size j cs e' (0, 0) (heap_alloc_new W1 _), ← Array.getElem?_toList, hcs]
    exact hu
  · intro v' w1 hown1 hg1 _ hblk
    refine h v' ⟨w1, hE'.grown hg1 fun k hk => Nat.le_trans hlo (World.ownsRow.lt hown' k hk).1⟩ ?_ hg1 hblk
    show w1.ownsRow _ _ _ _ _ _
    simpa [Own] using hown1
/-- .. in a region that draws its order: at whatever world that holds the new elements in block g. -/
theorem step_pushG {P : Program} {t e sz bytes : Nat} (F : AppFacts P t e sz bytes) {ops : Array Oper} {o : Oper} {a : Act} {K : Act → World → Prop} {Q : Exit → Act → World → Prop} {E : Prop} (hgd : o.guard = none) (s x : Operand)
    (ho : o.op = .call { callee := .builtin .append, args := #[s, x], argTypes := #[t, t] }) {α : Type} (enc : α → List Value) (he : ∀ x, (enc x).length = sz) (Wb : World) {lo : Nat} {W : World} {cs : Array Value} {e' : TypeId} {fr : Nat × Nat} (ys : List α) (l : List α) {v : Value} (hs : a.eval s = v)
    {g m c : Nat} (hx : a.eval x = .slice (some ⟨g, 0, none⟩) m c) (hg : W.heap[g]? = some (.cells cs e' fr)) (hown : Own enc e sz lo W v l) (hE : Ext Wb W) (hlo : Wb.heap.size ≤ lo) (hlo' : lo ≤ W.heap.size) (hm : m = ys.length) (hm0 : 0 < m) (hcs : cs.toList = ys.flatMap enc)
    (h1 : ∀ u ∈ ys.flatMap enc, u.oneCell' = true) (hb : (l.length + ys.length) * bytes ≤ 140737488355328) (hb' : l.length + ys.length ≤ 9223372036854775807)
    (h : ∀ v' (z1 : Extd Wb), Own enc e sz lo z1.val v' (l ++ ys) → W.grownBy z1.val v.ownBlock → (v'.ownBlock = v.ownBlock ∨ v'.ownBlock = some W.heap.size) → K (a.put o.dst v') z1.val) :
    if Region.wanted o (yielded ops a.tmps) = true then Oper.wp P o a W K Q else E := by
  subst hm
  obtain ⟨i, z, hi, hz, hsize, hby, hzs⟩ := F.info
  refine step_append_lies _ hgd s x t ho lo e i z sz bytes F.und hi hz hsize hby hzs F.pos v l.length (l.flatMap enc) hs hown ⟨g, 0, none⟩ ys.length c (ys.flatMap enc) hx (flatMap_length he ys) (fun j u hu => ?_) h1 hm0 (by simpa [maxLen] using hb') hb hlo' _ rfl ?_
  · have e1 : (⟨g, 0, none⟩ : Addr).add j = ⟨g, j, none⟩ := by unfold Addr.add; split <;> simp_all
    rw [e1, cell_of_row W g j cs e' fr hg, ← Array.getElem?_toList, hcs]
    exact hu
  · intro g cap w1 hown1 hg1 hblk _
    refine h _ ⟨w1, hE.grown hg1 fun k hk => Nat.le_trans hlo (World.ownsRow.lt hown k hk).1⟩ ?_ hg1 ?_
    · show w1.ownsRow _ _ _ _ _ _
      simpa [Own] using hown1
    · rcases hblk with hb1 | hb1
      · left; rw [hb1]; rfl
      · right; rw [hb1]; rfl
/-- Slices as elements. -/
def encV (v : Value) : List Value := [v]
theorem encV_length (v : Value) : (encV v).length = 1 := rfl
theorem Own.cellI {e lo g off n c : Nat} {w : World} {l : List Int} (h : Own encI e 1 lo w (.slice (some ⟨g, off, none⟩) n c) l) {j : Nat} {a : Int} (ha : l[j]? = some a) : w.cell? ⟨g, off + j, none⟩ = some (.int .i64 a) := by
  obtain ⟨p9, c9, e9, _, hc9⟩ := (h.sl encI_length).open
  cases e9
  obtain ⟨g4, off4, hp4, _, hca⟩ := hc9 j a ha
  cases hp4
  have := hca 0 _ rfl; simpa using this
/-- s[i:i+m]. -/
theorem SL.sub {α : Type} {R : World → List Value → α → Prop} {sz : Nat} {w : World} {b off n cap : Nat} {l : List α} (h : SL R sz w (.slice (some ⟨b, off, none⟩) n cap) l) {i m : Nat} (hi : i + m ≤ l.length) {cap' : Nat} (hc : m ≤ cap') : SL R sz w (.slice (some ⟨b, off + i * sz, none⟩) m cap') ((l.drop i).take m) := by
  obtain ⟨a', c', hv, hl, hcells⟩ := h
  cases hv
  have e : ((l.drop i).take m).length = m := by rw [List.length_take, List.length_drop]; omega
  refine ⟨_, cap', by rw [e], ⟨by rw [e]; omega, by rw [e]; exact hc⟩, fun hne => ?_⟩
  obtain ⟨b', off', ha, hb, hx⟩ := hcells (by intro e0; subst e0; simp at hne)
  cases ha
  refine ⟨b, off + i * sz, rfl, hb, fun j x hj => ?_⟩
  have hjm : j < m := by have := (List.getElem?_eq_some_iff.1 hj).1; omega
  rw [List.getElem?_take_of_lt hjm, List.getElem?_drop] at hj
  obtain ⟨cs, h1, h2, h3⟩ := hx _ x hj
  refine ⟨cs, h1, fun q u hu => ?_, h3⟩
  have := h2 q u hu
  rwa [Nat.add_mul, ← Nat.add_assoc] at this
end Go.Proofs.Ytknohbdhbjppjaa
namespace Go.Proofs.Ytknohbdhbjppjaa
open Go Go.RowKit

def vA (v : List Int) : Array Value := (v.map (Value.int .i64)).toArray
theorem vA_size (v : List Int) : (vA v).size = v.length := by simp [vA]
theorem vA_get (v : List Int) (i : Nat) : (vA v)[i]? = v[i]?.map (Value.int .i64) := by simp [vA]
theorem vA_some {v : List Int} {i : Nat} {x : Int} (h : v[i]? = some x) : (vA v)[i]? = some (.int .i64 x) := by rw [vA_get, h]; rfl
theorem vA_one (v : List Int) : (vA v).all (·.oneCell') = true := by
  rw [Array.all_eq_true_iff_forall_mem]
  intro u hu
  simp only [vA, List.mem_toArray, List.mem_map] at hu
  obtain ⟨x, _, rfl⟩ := hu; rfl
/-- Block g holds the numbers v. -/
def Row (t : TypeId) (w : World) (g : Nat) (v : List Int) : Prop := w.heap[g]? = some (.cells (vA v) t (0, 0))
theorem Row.eq {t : TypeId} {w : World} {g : Nat} {v : List Int} (h : Row t w g v) : w.heap[g]? = some (.cells (vA v) t (0, 0)) := h
theorem Row.lt {t : TypeId} {w : World} {g : Nat} {v : List Int} (h : Row t w g v) : g < w.heap.size := (Array.getElem?_eq_some_iff.1 h).1
theorem Row.lts {t : TypeId} {w : World} {g : Nat} {v : List Int} (h : Row t w g v) : LtS g w := ⟨h.lt⟩
theorem Row.new (t : TypeId) (w : World) (v : List Int) : Row t (w.alloc (.cells (vA v) t)) w.heap.size v := heap_alloc_new w _
theorem Row.of_eq {t : TypeId} {w : World} {g : Nat} {cs : Array Value} {v : List Int} (h : w.heap[g]? = some (.cells cs t (0, 0))) (e : cs = vA v) : Row t w g v := by subst e; exact h
theorem Row.up {t : TypeId} {w w' : World} {g : Nat} {v : List Int} (h : Row t w g v) (hE : Ext w w') : Row t w' g v := (hE.block h.lt).trans h
theorem Row.cell {t : TypeId} {w : World} {g : Nat} {v : List Int} (h : Row t w g v) {i : Nat} {x : Int} (hx : v[i]? = some x) : w.cell? ⟨g, i, none⟩ = some (.int .i64 x) := by
  rw [cell_of_row w g i _ t (0, 0) h]; exact vA_some hx
theorem Row.frozen {t : TypeId} {w : World} {g : Nat} {v : List Int} (h : Row t w g v) (i : Nat) : w.frozen? ⟨g, i, none⟩ = false := frozen_of_row w g i _ t h
theorem vA_set (v : List Int) (i : Nat) (x : Int) : (vA v).setIfInBounds i (.int .i64 x) = vA (v.set i x) := by simp [vA]
theorem Row.set {t : TypeId} {w : World} {g : Nat} {v : List Int} (h : Row t w g v) (i : Nat) (x : Int) : Row t (w.setCell ⟨g, i, none⟩ (.int .i64 x)) g (v.set i x) := by
  unfold Row
  rw [heap_setCell_same w g i _ t _ h, vA_set]
theorem Row.other {t : TypeId} {w : World} {g : Nat} {v : List Int} (h : Row t w g v) {p : Addr} (u : Value) (hne : g ≠ p.block) : Row t (w.setCell p u) g v := (heap_setCell_other w p g u hne).trans h
theorem Row.alloc {t : TypeId} {w : World} {g : Nat} {v : List Int} (h : Row t w g v) (o : Obj) : Row t (w.alloc o) g v := h.up ((Ext.refl w).alloc o)
theorem Row.drew {t : TypeId} {w : World} {g : Nat} {v : List Int} (h : Row t w g v) : Row t w.drew g v := h
theorem Row.setRow {t : TypeId} {w : World} {g : Nat} {v : List Int} (h : Row t w g v) (v' : List Int) : Row t (w.setRow g (vA v')) g v' := setRow_heap w g _ _ t _ h
theorem run_index_vA {P : Program} {t e : TypeId} {n : Nat} (ht : P.underlying t = some (.array n e)) (he : P.underlying e = some (.int .i64)) (hs : (P.info? e).map (·.size) = some 1) {v : List Int} {i : Int} {x : Int} (h0 : 0 ≤ i) (hi : i < n) (hx : v[i.toNat]? = some x) (w : World) :
    (Instr.index t (.agg (vA v)) (.int .i64 i)).run P w = .ok (.int .i64 x) w := by
  have hx' := vA_some hx
  cases hq : P.info? e with
  | none => simp [hq] at hs
  | some info =>
    have h1 : info.size = 1 := by simpa [hq] using hs
    simp [Instr.index, asIntOf, run_underlying ht, run_underlying he, part, isAgg, sizeOf, typeInfo, Sem.run_bind, hq, h1, h0, hi, hx', go_sem]
/-- A whole array is stored into the block that was made last. -/
theorem wpList_store_new {P : Program} {ops : Array Oper} {rest : List Oper} {o : Oper} {a : Act} {W1 : World} {Q : Exit → Act → World → Prop} (hgd : o.guard = none) (ty : TypeId) (x y : Operand) (ho : o.op = .store ty x y)
    {g : Nat} {v : List Int} (hx : a.eval x = .pointer (some ⟨g, 0, none⟩)) (hy : a.eval y = .agg (vA v)) {t : TypeId} {old : Array Value} (hg : g = W1.heap.size)
    (hi : (P.info? ty).map (·.size) = some v.length) (hold : old.size = v.length)
    (h : ∀ z1 : Extd W1, Row t z1.val W1.heap.size v → wpList P ops Q rest (a.put o.dst undef) z1.val) : wpList P ops Q (o :: rest) a (W1.alloc (.cells old t)) := by
  subst hg
  have h0 : (W1.alloc (.cells old t)).heap[W1.heap.size]? = some (.cells old t (0, 0)) := heap_alloc_new _ _
  refine wpList_store_row hgd ty x y ho _ (vA v) hx hy t old h0 (by rw [vA_size]; exact hi) (by rw [vA_size]; exact hold) (vA_one v) ?_
  exact h ⟨_, ((Ext.refl W1).alloc _).setRow (Nat.le_refl _) _⟩ (setRow_heap _ _ _ _ t _ h0)
end Go.Proofs.Ytknohbdhbjppjaa
namespace Go.Proofs.Ytknohbdhbjppjaa
open Go Go.RowKit Go.Proofs

theorem vA_zeros : vA zeros = #[.int .i64 0, .int .i64 0, .int .i64 0, .int .i64 0, .int .i64 0, .int .i64 0, .int .i64 0, .int .i64 0, .int .i64 0, .int .i64 0, .int .i64 0, .int .i64 0, .int .i64 0, .int .i64 0, .int .i64 0, .int .i64 0, .int .i64 0, .int .i64 0, .int .i64 0, .int .i64 0, .int .i64 0, .int .i64 0, .int .i64 0, .int .i64 0, .int .i64 0, .int .i64 0, .int .i64 0, .int .i64 0, .int .i64 0, .int .i64 0, .int .i64 0, .int .i64 0] := rfl
theorem Try.sInt : (Try.prog.info? 3).map (·.size) = some 1 := by kernel_rfl
theorem Try.sVals : (Try.prog.info? 121).map (·.size) = some 32 := by kernel_rfl
/-- The key of the entry before, -1 ahead of the first. -/
def lastK (l : List Ent) (k : Nat) : Int := if k = 0 then -1 else match l[k - 1]? with | some x => x.k | none => -1
theorem lastK_in {least : Int} {l : List Ent} {k : Nat} (h : upTo (entAt least l) k = true) : -1 ≤ lastK l k ∧ lastK l k ≤ 31 := by
  unfold lastK
  split
  · omega
  · split
    · rename_i x hx
      have := entAt_in hx (upTo_iff.1 h (k - 1) (by omega))
      omega
    · omega
theorem lastK_next {l : List Ent} {k : Nat} {x : Ent} (h : l[k]? = some x) : lastK l (k + 1) = x.k := by simp [lastK, h]
theorem entAt_last {least : Int} {l : List Ent} {k : Nat} {x : Ent} (hx : l[k]? = some x) (h : upTo (entAt least l) k = true) : entAt least l k = (inR x.k (lastK l k + 1) 31 && inR x.v least 1000000) := by
  by_cases h0 : 0 < k
  · obtain ⟨y, hy⟩ := getElem?_some_of_lt (show k - 1 < l.length by have := (List.getElem?_eq_some_iff.1 hx).1; omega)
    have hin := entAt_in hy (upTo_iff.1 h (k - 1) (by omega))
    have e : lastK l k = y.k := by unfold lastK; rw [if_neg (by omega), hy]
    rw [entAt_next hx h0 hy, e, Bool.eq_iff_iff]
    simp only [Bool.and_eq_true, inR_iff, decide_eq_true_eq]
    omega
  · have e : lastK l k = -1 := by unfold lastK; rw [if_pos (by omega)]
    rw [entAt_first hx h0, e]; rfl
set_option maxHeartbeats 1000000 in
theorem entriesValid_any (l : List Ent) (v : Value) (least : Int) (w : World) (h : SL (RF Ent.enc) 2 w v l) :
    Calls Try.prog 90 #[v, .int .i64 least] w fun e w' => e = .returned (.bool (entsOk least l)) ∧ Up w w' := by
  obtain ⟨a, cap, rfl, hlen, hc⟩ := h.open
  clear h
  go_enter Try.func90, Try.ntmps90
  go_wp2_with fail
  go_loopw [5, 7, 10] (fun s5 _ s10 wr => ∃ k : Nat, s10 = .int .i64 k ∧ s5 = .int .i64 (lastK l k) ∧ k ≤ l.length ∧ upTo (entAt least l) k = true ∧ Up w wr) (fun _ _ s10 _ => l.length - (intOf s10).toNat)
  case atStart => exact ⟨0, rfl, rfl, Nat.zero_le _, rfl, .of (Ext.refl _)⟩
  case round =>
    obtain ⟨k, rfl, rfl, hk, hall, z, rfl⟩ := hrel
    by_cases hlt : k < l.length
    · obtain ⟨x, hxk⟩ := getElem?_some_of_lt hlt
      obtain ⟨b, off, rfl, hb, hcc⟩ := hc k x hxk
      have c0 : w.cell? ⟨b, off + k * 2, none⟩ = some (.int .i64 x.k) := hcc 0 _ rfl
      have c1 : w.cell? ⟨b, off + k * 2 + 1, none⟩ = some (.int .i64 x.v) := hcc 1 _ rfl
      obtain ⟨l0, l1⟩ := lastK_in hall
      have Hat := Lib.hid (entAt_last hxk hall)
      have Hn := Lib.hid (lastK_next hxk)
      have Hall := Lib.hid hall
      clear hc hcc hxk hall
      rcases guards2 (inR x.k (lastK l k + 1) 31) (inR x.v least 1000000) with h1 | ⟨h1, h2⟩ | ⟨h1, h2⟩
      case inr.inr =>
        go_wp2_with (go_at_call 89; refine (in_any _ _ _ _).mono ?_; rintro e w' ⟨rfl, rfl⟩)
        go_roundw
        case rel => exact ⟨k + 1, by go_num, by rw [Hn.out], by omega, upTo_succ Hall.out (by rw [Hat.out, h1, h2]; rfl), (.of (by repeat (first | exact Ext.refl _ | refine Ext.up ?_ _ | refine Ext.alloc ?_ _ | refine Ext.drew ?_ | refine Ext.setRow ?_ (by first | (dsimp only; omega) | exact LeS.le | exact LeS.add _ | (simp; done) | (simp; omega)) _ | refine Ext.setCell ?_ (by first | (dsimp only; omega) | exact LeS.le | exact LeS.add _ | (simp; done) | (simp; omega)) _)))⟩
        case measure => simp [intOf]; omega
      all_goals
        go_wp2_with (go_at_call 89; refine (in_any _ _ _ _).mono ?_; rintro e w' ⟨rfl, rfl⟩)
        go_ret
        refine ⟨?_, (.of (by repeat (first | exact Ext.refl _ | refine Ext.up ?_ _ | refine Ext.alloc ?_ _ | refine Ext.drew ?_ | refine Ext.setRow ?_ (by first | (dsimp only; omega) | exact LeS.le | exact LeS.add _ | (simp; done) | (simp; omega)) _ | refine Ext.setCell ?_ (by first | (dsimp only; omega) | exact LeS.le | exact LeS.add _ | (simp; done) | (simp; omega)) _)))⟩
        show Ending.returned (.bool false) = _
        rw [entsOk, upTo_false hlt (by rw [Hat.out]; simp [*])]
    · go_wp2_with fail
      go_ret
      obtain rfl : k = l.length := by omega
      refine ⟨?_, z, rfl⟩; show Ending.returned (.bool true) = _; rw [entsOk, hall]
theorem iStoreValid_any (l : List Ent) (v : Value) (w : World) (h : SL (RF Ent.enc) 2 w v l) :
    Calls Try.prog 74 #[v] w fun e w' => e = .returned (.bool (entsOk 1 l)) ∧ Up w w' := by
  have H := Lib.hid h; clear h
  go_enter Try.func74, Try.ntmps74
  go_wp2_with (go_at_call 90; refine (entriesValid_any l _ _ _ H.out).mono ?_; rintro e w' ⟨rfl, z, rfl⟩)
  go_ret
  exact ⟨rfl, z, rfl⟩
set_option maxHeartbeats 1000000 in
theorem valuesOf_any (least : Int) (l : List Ent) (v : Value) (w : World) (h : SL (RF Ent.enc) 2 w v l) (hok : entsOk least l = true) :
    Calls Try.prog 99 #[v] w fun e w' => e = .returned (.agg (vA (valsOf l))) ∧ Up w w' := by
  obtain ⟨a, cap, rfl, hlen, hc⟩ := h.open
  clear h
  have Hok := Lib.hid hok; clear hok
  go_enter Try.func99, Try.ntmps99
  go_wp2_with fail
  go_loopw [5, 8] (fun _ s8 wr => ∃ k : Nat, s8 = .int .i64 k ∧ k ≤ l.length ∧ Up w wr ∧ Row 121 wr w.heap.size zeros ∧ Row 121 wr (w.heap.size + 1) (vsets zeros (l.take k))) (fun _ s8 _ => l.length - (intOf s8).toNat)
  case atStart => exact ⟨0, rfl, Nat.zero_le _, (.of (by repeat (first | exact Ext.refl _ | refine Ext.up ?_ _ | refine Ext.alloc ?_ _ | refine Ext.drew ?_ | refine Ext.setRow ?_ (by first | (dsimp only; omega) | exact LeS.le | exact LeS.add _ | (simp; done) | (simp; omega)) _ | refine Ext.setCell ?_ (by first | (dsimp only; omega) | exact LeS.le | exact LeS.add _ | (simp; done) | (simp; omega)) _))), Row.of_eq (heap_alloc2_old _ _ _) vA_zeros.symm, Row.of_eq (heap_alloc2_new _ _ _) vA_zeros.symm⟩
  case round =>
    obtain ⟨k, rfl, hk, ⟨z, rfl⟩, r0, r1⟩ := hrel
    by_cases hlt : k < l.length
    · obtain ⟨x, hxk⟩ := getElem?_some_of_lt hlt
      obtain ⟨b, off, rfl, hb, hcc⟩ := hc k x hxk
      have c0 : w.cell? ⟨b, off + k * 2, none⟩ = some (.int .i64 x.k) := hcc 0 _ rfl
      have c1 : w.cell? ⟨b, off + k * 2 + 1, none⟩ = some (.int .i64 x.v) := hcc 1 _ rfl
      obtain ⟨k0, k1, _, _⟩ := entsOk_at Hok.out hxk
      obtain ⟨y, hy⟩ := getElem?_some_of_lt (l := vsets zeros (l.take k)) (k := x.k.toNat) (by rw [vsets_length, zeros_length]; omega)
      have d0 := r1.cell hy
      have f0 := r1.frozen x.k.toNat
      have hL := r1.lts
      have R0 := Lib.hid r0; have R1 := Lib.hid r1
      have Hs := Lib.hid (vsets_snoc zeros hxk)
      clear hc hcc hxk hy r0 r1
      go_wp2_with fail
      go_roundw
      case rel => exact ⟨k + 1, by go_num, by omega, (.of (by repeat (first | exact Ext.refl _ | refine Ext.up ?_ _ | refine Ext.alloc ?_ _ | refine Ext.drew ?_ | refine Ext.setRow ?_ (by first | (dsimp only; omega) | exact LeS.le | exact LeS.add _ | (simp; done) | (simp; omega)) _ | refine Ext.setCell ?_ (by first | (dsimp only; omega) | exact LeS.le | exact LeS.add _ | (simp; done) | (simp; omega)) _))), (R0.out.alloc _).other _ (by simp), by rw [Hs.out]; exact (R1.out.alloc _).set _ _⟩
      case measure => simp [intOf]; omega
    · obtain rfl : k = l.length := by omega
      rw [List.take_length] at r1
      have R1 := Lib.hid r1; have R0 := Lib.hid r0
      clear r1 r0
      go_wp2_with (first | (refine wpList_load_row rfl _ _ rfl _ rfl _ _ _ _ R1.out.eq Try.underlying121 rfl (by rw [vA_size, vsets_length, zeros_length]; exact Try.sVals) ?_) | (refine wpList_store_row rfl _ _ _ rfl _ _ rfl rfl _ _ R0.out.eq (by rw [vA_size, vsets_length, zeros_length]; exact Try.sVals) (by rw [vA_size, vA_size, vsets_length]) (vA_one _) ?_))
      refine bodyPost_ret (results_cell_row (p := 2) (by kernel_rfl) _ _ w.heap.size _ (vA (valsOf l)) (0, 0) _ rfl (R0.out.setRow _).eq Try.underlying121 rfl (by rw [vA_size, valsOf_length]; exact Try.sVals)) rfl ⟨rfl, (.of (by repeat (first | exact Ext.refl _ | refine Ext.up ?_ _ | refine Ext.alloc ?_ _ | refine Ext.drew ?_ | refine Ext.setRow ?_ (by first | (dsimp only; omega) | exact LeS.le | exact LeS.add _ | (simp; done) | (simp; omega)) _ | refine Ext.setCell ?_ (by first | (dsimp only; omega) | exact LeS.le | exact LeS.add _ | (simp; done) | (simp; omega)) _)))⟩
set_option maxRecDepth 100000 in
set_option maxHeartbeats 1000000 in
theorem store_any (v : List Int) (w : World) (hv : v.length = 32) :
    Calls Try.prog 100 #[.agg (vA v)] w fun e w' => ∃ v', e = .returned v' ∧ Up w w' ∧ Own Ent.enc 97 2 w.heap.size w' v' (storeOf v) := by
  have R0 := Lib.hid (Row.new 121 w v)
  have Hv := Lib.hid hv; clear hv
  go_enter Try.func100, Try.ntmps100
  go_wp2_with ((refine wpList_load_row rfl _ _ rfl _ rfl _ _ _ _ R0.out.eq Try.underlying121 rfl (by rw [vA_size, Hv.out]; exact Try.sVals) ?_))
  go_loopw [3, 4, 5, 7] (fun s3 _ _ s7 wr => ∃ k : Nat, s7 = .int .i64 k ∧ k ≤ 32 ∧ Up w wr ∧ Own Ent.enc 97 2 w.heap.size wr s3 (stTo v k)) (fun _ _ _ s7 _ => 32 - (intOf s7).toNat)
  case atStart => exact ⟨0, rfl, Nat.zero_le _, (.of (by repeat (first | exact Ext.refl _ | refine Ext.up ?_ _ | refine Ext.alloc ?_ _ | refine Ext.drew ?_ | refine Ext.setRow ?_ (by first | (dsimp only; omega) | exact LeS.le | exact LeS.add _ | (simp; done) | (simp; omega)) _ | refine Ext.setCell ?_ (by first | (dsimp only; omega) | exact LeS.le | exact LeS.add _ | (simp; done) | (simp; omega)) _))), Own.nil _ _ _ _ _⟩
  case round =>
    obtain ⟨k, rfl, hk, ⟨z, rfl⟩, hown⟩ := hrel
    by_cases hlt : k < 32
    · obtain ⟨x, hx⟩ := getElem?_some_of_lt (l := v) (k := k) (by rw [Hv.out]; exact hlt)
      have hix := run_index_vA Try.underlying121 Try.underlying3 Try.sInt (i := (k : Int)) (by omega) (by omega) hx
      have k0 : (0 : Int) ≤ k := by omega
      have k1 : (k : Int) < 32 := by omega
      have hle : (stTo v k).length ≤ k := stTo_len v k
      have Hown := Lib.hid hown
      by_cases hp : 0 < x
      · have Hs := Lib.hid (stTo_yes hx hp)
        have hp' : decide (0 < x) = true := by simpa using hp
        clear hown hx
        go_wp2_with (at_builtin; refine wpList_push1 fEnt rfl (.tmp 13) (.tmp 17) rfl Ent.enc w ⟨(k : Int), x⟩ (stTo v k) rfl (Hown.out.up (by repeat (first | exact Ext.refl _ | refine Ext.up ?_ _ | refine Ext.alloc ?_ _ | refine Ext.drew ?_ | refine Ext.setRow ?_ (by first | (dsimp only; omega) | exact LeS.le | exact LeS.add _ | (simp; done) | (simp; omega)) _ | refine Ext.setCell ?_ (by first | (dsimp only; omega) | exact LeS.le | exact LeS.add _ | (simp; done) | (simp; omega)) _))) (by repeat (first | exact Ext.refl _ | refine Ext.up ?_ _ | refine Ext.alloc ?_ _ | refine Ext.drew ?_ | refine Ext.setRow ?_ (by first | (dsimp only; omega) | exact LeS.le | exact LeS.add _ | (simp; done) | (simp; omega)) _ | refine Ext.setCell ?_ (by first | (dsimp only; omega) | exact LeS.le | exact LeS.add _ | (simp; done) | (simp; omega)) _)) rfl (by go_simp) rfl rfl (oneE _) (by omega) (by omega) ?_; intro v1 z1 hown1)
        have hown2 := Lib.hid hown1; clear hown1
        go_wp2_with fail
        go_roundw
        case rel => exact ⟨k + 1, by go_num, by omega, (.of (by repeat (first | exact Ext.refl _ | refine Ext.up ?_ _ | refine Ext.alloc ?_ _ | refine Ext.drew ?_ | refine Ext.setRow ?_ (by first | (dsimp only; omega) | exact LeS.le | exact LeS.add _ | (simp; done) | (simp; omega)) _ | refine Ext.setCell ?_ (by first | (dsimp only; omega) | exact LeS.le | exact LeS.add _ | (simp; done) | (simp; omega)) _))), by rw [Hs.out]; exact hown2.out⟩
        case measure => simp [intOf]; omega
      · have Hs := Lib.hid (stTo_no hx hp)
        have hp' : decide (0 < x) = false := by simpa using hp
        clear hown hx
        go_wp2_with fail
        go_roundw
        case rel => exact ⟨k + 1, by go_num, by omega, (.of (by repeat (first | exact Ext.refl _ | refine Ext.up ?_ _ | refine Ext.alloc ?_ _ | refine Ext.drew ?_ | refine Ext.setRow ?_ (by first | (dsimp only; omega) | exact LeS.le | exact LeS.add _ | (simp; done) | (simp; omega)) _ | refine Ext.setCell ?_ (by first | (dsimp only; omega) | exact LeS.le | exact LeS.add _ | (simp; done) | (simp; omega)) _))), by rw [Hs.out]; exact Hown.out.up (by repeat (first | exact Ext.refl _ | refine Ext.up ?_ _ | refine Ext.alloc ?_ _ | refine Ext.drew ?_ | refine Ext.setRow ?_ (by first | (dsimp only; omega) | exact LeS.le | exact LeS.add _ | (simp; done) | (simp; omega)) _ | refine Ext.setCell ?_ (by first | (dsimp only; omega) | exact LeS.le | exact LeS.add _ | (simp; done) | (simp; omega)) _))⟩
        case measure => simp [intOf]; omega
    · go_wp2_with fail
      go_ret
      obtain rfl : k = 32 := by omega
      exact ⟨_, rfl, ⟨z, rfl⟩, hown⟩
end Go.Proofs.Ytknohbdhbjppjaa
