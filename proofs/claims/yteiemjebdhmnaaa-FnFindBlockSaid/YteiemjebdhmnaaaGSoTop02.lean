/- Walks: sizes, copies, comparisons and marks of slices of flat elements (the laws' helpers). Plain ground: arrays of numbers, one block each. Walks: stores and the values of all keys. Walks: versions. Walks: stores on the reference's side; versions that are read. -/
import Derived.Test.YteiemjebdhmnaaaProg
import Derived.Test.YteiemjebdhmnaaaGSoTop00
import Derived.Laws.Rows
import Derived.Test.YteiemjebdhmnaaaGSoTop01
set_option linter.unusedSimpArgs false
set_option linter.unusedVariables false
namespace Go.Proofs.Yteiemjebdhmnaaa
open Go Go.RowKit Go.Proofs
theorem fI : AppFacts Try.prog 25 3 1 8 := by
  have h : (Try.prog.info? 3).map (fun i => (i.zero, i.size, i.bytes)) = some (some (.int .i64 0), 1, 8) := by kernel_rfl
  obtain ⟨i0, hi, hz0, hz1, hz2⟩ := info_parts h
  exact ⟨Try.underlying25, ⟨i0, _, hi, hz0, hz1, hz2, rfl⟩, by decide⟩
theorem fEnt : AppFacts Try.prog 23 61 2 16 := by
  have h : (Try.prog.info? 61).map (fun i => (i.zero, i.size, i.bytes)) = some (some (.agg #[.int .i64 0, .int .i64 0]), 2, 16) := by kernel_rfl
  obtain ⟨i0, hi, hz0, hz1, hz2⟩ := info_parts h
  exact ⟨Try.underlying23, ⟨i0, _, hi, hz0, hz1, hz2, rfl⟩, by decide⟩
theorem fActn : AppFacts Try.prog 37 85 4 32 := by
  have h : (Try.prog.info? 85).map (fun i => (i.zero, i.size, i.bytes)) = some (some (.agg #[.int .i64 0, .int .i64 0, .int .i64 0, .int .i64 0]), 4, 32) := by kernel_rfl
  obtain ⟨i0, hi, hz0, hz1, hz2⟩ := info_parts h
  exact ⟨Try.underlying37, ⟨i0, _, hi, hz0, hz1, hz2, rfl⟩, by decide⟩
end Go.Proofs.Yteiemjebdhmnaaa
namespace Go.Proofs.Yteiemjebdhmnaaa
open Go Go.RowKit

def vA (v : List Int) : Array Value := (v.map (Value.int .i64)).toArray
theorem vA_size (v : List Int) : (vA v).size = v.length := by simp [vA]
theorem vA_get (v : List Int) (i : Nat) : (vA v)[i]? = v[i]?.map (Value.int .i64) := by simp [vA]
theorem vA_some {v : List Int} {i : Nat} {x : Int} (h : v[i]? = some x) : (vA v)[i]? = some (.int .i64 x) := by rw [vA_get, h]; rfl
theorem vA_one (v : List Int) : (vA v).all (·.oneCell') = true := by
  rw [Array.all_eq_true_iff_forall_mem]
  intro u hu
  simp only [vA, List.mem_toArray, List.mem_map] at hu
  obtain ⟨x, _, rfl⟩ := hu; rfl
/-- Block g holds the numbers v. -/
def Row (t : TypeId) (w : World) (g : Nat) (v : List Int) : Prop := w.heap[g]? = some (.cells (vA v) t (0, 0))
theorem Row.eq {t : TypeId} {w : World} {g : Nat} {v : List Int} (h : Row t w g v) : w.heap[g]? = some (.cells (vA v) t (0, 0)) := h
theorem Row.lt {t : TypeId} {w : World} {g : Nat} {v : List Int} (h : Row t w g v) : g < w.heap.size := (Array.getElem?_eq_some_iff.1 h).1
theorem Row.lts {t : TypeId} {w : World} {g : Nat} {v : List Int} (h : Row t w g v) : LtS g w := ⟨h.lt⟩
theorem Row.new (t : TypeId) (w : World) (v : List Int) : Row t (w.alloc (.cells (vA v) t)) w.heap.size v := heap_alloc_new w _
theorem Row.of_eq {t : TypeId} {w : World} {g : Nat} {cs : Array Value} {v : List Int} (h : w.heap[g]? = some (.cells cs t (0, 0))) (e : cs = vA v) : Row t w g v := by subst e; exact h
theorem Row.up {t : TypeId} {w w' : World} {g : Nat} {v : List Int} (h : Row t w g v) (hE : Ext w w') : Row t w' g v := (hE.block h.lt).trans h
theorem Row.cell {t : TypeId} {w : World} {g : Nat} {v : List Int} (h : Row t w g v) {i : Nat} {x : Int} (hx : v[i]? = some x) : w.cell? ⟨g, i, none⟩ = some (.int .i64 x) := by
  rw [cell_of_row w g i _ t (0, 0) h]; exact vA_some hx
theorem Row.frozen {t : TypeId} {w : World} {g : Nat} {v : List Int} (h : Row t w g v) (i : Nat) : w.frozen? ⟨g, i, none⟩ = false := frozen_of_row w g i _ t h
theorem vA_set (v : List Int) (i : Nat) (x : Int) : (vA v).setIfInBounds i (.int .i64 x) = vA (v.set i x) := by simp [vA]
theorem Row.set {t : TypeId} {w : World} {g : Nat} {v : List Int} (h : Row t w g v) (i : Nat) (x : Int) : Row t (w.setCell ⟨g, i, none⟩ (.int .i64 x)) g (v.set i x) := by
  unfold Row
  rw [heap_setCell_same w g i _ t _ h, vA_set]
theorem Row.other {t : TypeId} {w : World} {g : Nat} {v : List Int} (h : Row t w g v) {p : Addr} (u : Value) (hne : g ≠ p.block) : Row t (w.setCell p u) g v := (heap_setCell_other w p g u hne).trans h
theorem Row.alloc {t : TypeId} {w : World} {g : Nat} {v : List Int} (h : Row t w g v) (o : Obj) : Row t (w.alloc o) g v := h.up ((Ext.refl w).alloc o)
theorem Row.drew {t : TypeId} {w : World} {g : Nat} {v : List Int} (h : Row t w g v) : Row t w.drew g v := h
theorem Row.setRow {t : TypeId} {w : World} {g : Nat} {v : List Int} (h : Row t w g v) (v' : List Int) : Row t (w.setRow g (vA v')) g v' := setRow_heap w g _ _ t _ h
theorem run_index_vA {P : Program} {t e : TypeId} {n : Nat} (ht : P.underlying t = some (.array n e)) (he : P.underlying e = some (.int .i64)) (hs : (P.info? e).map (·.size) = some 1) {v : List Int} {i : Int} {x : Int} (h0 : 0 ≤ i) (hi : i < n) (hx : v[i.toNat]? = some x) (w : World) :
    (Instr.index t (.agg (vA v)) (.int .i64 i)).run P w = .ok (.int .i64 x) w := by
  have hx' := vA_some hx
  cases hq : P.info? e with
  | none => simp [hq] at hs
  | some info =>
    have h1 : info.size = 1 := by simpa [hq] using hs
    simp [Instr.index, asIntOf, run_underlying ht, run_underlying he, part, isAgg, sizeOf, typeInfo, Sem.run_bind, hq, h1, h0, hi, hx', go_sem]
/-- A whole array is stored into the block that was made last. -/
theorem wpList_store_new {P : Program} {ops : Array Oper} {rest : List Oper} {o : Oper} {a : Act} {W1 : World} {Q : Exit → Act → World → Prop} (hgd : o.guard = none) (ty : TypeId) (x y : Operand) (ho : o.op = .store ty x y)
    {g : Nat} {v : List Int} (hx : a.eval x = .pointer (some ⟨g, 0, none⟩)) (hy : a.eval y = .agg (vA v)) {t : TypeId} {old : Array Value} (hg : g = W1.heap.size)
    (hi : (P.info? ty).map (·.size) = some v.length) (hold : old.size = v.length)
    (h : ∀ z1 : Extd W1, Row t z1.val W1.heap.size v → wpList P ops Q rest (a.put o.dst undef) z1.val) : wpList P ops Q (o :: rest) a (W1.alloc (.cells old t)) := by
  subst hg
  have h0 : (W1.alloc (.cells old t)).heap[W1.heap.size]? = some (.cells old t (0, 0)) := heap_alloc_new _ _
  refine wpList_store_row hgd ty x y ho _ (vA v) hx hy t old h0 (by rw [vA_size]; exact hi) (by rw [vA_size]; exact hold) (vA_one v) ?_
  exact h ⟨_, ((Ext.refl W1).alloc _).setRow (Nat.le_refl _) _⟩ (setRow_heap _ _ _ _ t _ h0)
end Go.Proofs.Yteiemjebdhmnaaa
namespace Go.Proofs.Yteiemjebdhmnaaa
open Go Go.RowKit Go.Proofs

theorem vA_zeros : vA zeros = #[.int .i64 0, .int .i64 0, .int .i64 0, .int .i64 0, .int .i64 0, .int .i64 0, .int .i64 0, .int .i64 0, .int .i64 0, .int .i64 0, .int .i64 0, .int .i64 0, .int .i64 0, .int .i64 0, .int .i64 0, .int .i64 0, .int .i64 0, .int .i64 0, .int .i64 0, .int .i64 0, .int .i64 0, .int .i64 0, .int .i64 0, .int .i64 0, .int .i64 0, .int .i64 0, .int .i64 0, .int .i64 0, .int .i64 0, .int .i64 0, .int .i64 0, .int .i64 0] := rfl
theorem Try.sInt : (Try.prog.info? 3).map (·.size) = some 1 := by kernel_rfl
theorem Try.sVals : (Try.prog.info? 57).map (·.size) = some 32 := by kernel_rfl
/-- The key of the entry before, -1 ahead of the first. -/
def lastK (l : List Ent) (k : Nat) : Int := if k = 0 then -1 else match l[k - 1]? with | some x => x.k | none => -1
theorem lastK_in {least : Int} {l : List Ent} {k : Nat} (h : upTo (entAt least l) k = true) : -1 ≤ lastK l k ∧ lastK l k ≤ 31 := by
  unfold lastK
  split
  · omega
  · split
    · rename_i x hx
      have := entAt_in hx (upTo_iff.1 h (k - 1) (by omega))
      omega
    · omega
theorem lastK_next {l : List Ent} {k : Nat} {x : Ent} (h : l[k]? = some x) : lastK l (k + 1) = x.k := by simp [lastK, h]
theorem entAt_last {least : Int} {l : List Ent} {k : Nat} {x : Ent} (hx : l[k]? = some x) (h : upTo (entAt least l) k = true) : entAt least l k = (inR x.k (lastK l k + 1) 31 && inR x.v least 1000000) := by
  by_cases h0 : 0 < k
  · obtain ⟨y, hy⟩ := getElem?_some_of_lt (show k - 1 < l.length by have := (List.getElem?_eq_some_iff.1 hx).1; omega)
    have hin := entAt_in hy (upTo_iff.1 h (k - 1) (by omega))
    have e : lastK l k = y.k := by unfold lastK; rw [if_neg (by omega), hy]
    rw [entAt_next hx h0 hy, e, Bool.eq_iff_iff]
    simp only [Bool.and_eq_true, inR_iff, decide_eq_true_eq]
    omega
  · have e : lastK l k = -1 := by unfold lastK; rw [if_pos (by omega)]
    rw [entAt_first hx h0, e]; rfl
set_option maxHeartbeats 1000000 in
theorem entriesValid_any (l : List Ent) (v : Value) (least : Int) (w : World) (h : SL (RF Ent.enc) 2 w v l) :
    Calls Try.prog 46 #[v, .int .i64 least] w fun e w' => e = .returned (.bool (entsOk least l)) ∧ Up w w' := by
  obtain ⟨a, cap, rfl, hlen, hc⟩ := h.open
  clear h
  go_enter Try.func46, Try.ntmps46
  go_wp2_with fail
  go_loopw [5, 7, 10] (fun s5 _ s10 wr => ∃ k : Nat, s10 = .int .i64 k ∧ s5 = .int .i64 (lastK l k) ∧ k ≤ l.length ∧ upTo (entAt least l) k = true ∧ Up w wr) (fun _ _ s10 _ => l.length - (intOf s10).toNat)
  case atStart => exact ⟨0, rfl, rfl, Nat.zero_le _, rfl, .of (Ext.refl _)⟩
  case round =>
    obtain ⟨k, rfl, rfl, hk, hall, z, rfl⟩ := hrel
    by_cases hlt : k < l.length
    · obtain ⟨x, hxk⟩ := getElem?_some_of_lt hlt
      obtain ⟨b, off, rfl, hb, hcc⟩ := hc k x hxk
      have c0 : w.cell? ⟨b, off + k * 2, none⟩ = some (.int .i64 x.k) := hcc 0 _ rfl
      have c1 : w.cell? ⟨b, off + k * 2 + 1, none⟩ = some (.int .i64 x.v) := hcc 1 _ rfl
      obtain ⟨l0, l1⟩ := lastK_in hall
      have Hat := Lib.hid (entAt_last hxk hall)
      have Hn := Lib.hid (lastK_next hxk)
      have Hall := Lib.hid hall
      clear hc hcc hxk hall
      rcases guards2 (inR x.k (lastK l k + 1) 31) (inR x.v least 1000000) with h1 | ⟨h1, h2⟩ | ⟨h1, h2⟩
      case inr.inr =>
        go_wp2_with (go_at_call 60; refine (in_any _ _ _ _).mono ?_; rintro e w' ⟨rfl, rfl⟩)
        go_roundw
        case rel => exact ⟨k + 1, by go_num, by rw [Hn.out], by omega, upTo_succ Hall.out (by rw [Hat.out, h1, h2]; rfl), (.of (by repeat (first | exact Ext.refl _ | refine Ext.up ?_ _ | refine Ext.alloc ?_ _ | refine Ext.drew ?_ | refine Ext.setRow ?_ (by first | (dsimp only; omega) | exact LeS.le | exact LeS.add _ | (simp; done) | (simp; omega)) _ | refine Ext.setCell ?_ (by first | (dsimp only; omega) | exact LeS.le | exact LeS.add _ | (simp; done) | (simp; omega)) _)))⟩
        case measure => simp [intOf]; omega
      all_goals
        go_wp2_with (go_at_call 60; refine (in_any _ _ _ _).mono ?_; rintro e w' ⟨rfl, rfl⟩)
        go_ret
        refine ⟨?_, (.of (by repeat (first | exact Ext.refl _ | refine Ext.up ?_ _ | refine Ext.alloc ?_ _ | refine Ext.drew ?_ | refine Ext.setRow ?_ (by first | (dsimp only; omega) | exact LeS.le | exact LeS.add _ | (simp; done) | (simp; omega)) _ | refine Ext.setCell ?_ (by first | (dsimp only; omega) | exact LeS.le | exact LeS.add _ | (simp; done) | (simp; omega)) _)))⟩
        show Ending.returned (.bool false) = _
        rw [entsOk, upTo_false hlt (by rw [Hat.out]; simp [*])]
    · go_wp2_with fail
      go_ret
      obtain rfl : k = l.length := by omega
      refine ⟨?_, z, rfl⟩; show Ending.returned (.bool true) = _; rw [entsOk, hall]
theorem iStoreValid_any (l : List Ent) (v : Value) (w : World) (h : SL (RF Ent.enc) 2 w v l) :
    Calls Try.prog 14 #[v] w fun e w' => e = .returned (.bool (entsOk 1 l)) ∧ Up w w' := by
  have H := Lib.hid h; clear h
  go_enter Try.func14, Try.ntmps14
  go_wp2_with (go_at_call 46; refine (entriesValid_any l _ _ _ H.out).mono ?_; rintro e w' ⟨rfl, z, rfl⟩)
  go_ret
  exact ⟨rfl, z, rfl⟩
set_option maxHeartbeats 1000000 in
theorem valuesOf_any (least : Int) (l : List Ent) (v : Value) (w : World) (h : SL (RF Ent.enc) 2 w v l) (hok : entsOk least l = true) :
    Calls Try.prog 45 #[v] w fun e w' => e = .returned (.agg (vA (valsOf l))) ∧ Up w w' := by
  obtain ⟨a, cap, rfl, hlen, hc⟩ := h.open
  clear h
  have Hok := Lib.hid hok; clear hok
  go_enter Try.func45, Try.ntmps45
  go_wp2_with fail
  go_loopw [5, 8] (fun _ s8 wr => ∃ k : Nat, s8 = .int .i64 k ∧ k ≤ l.length ∧ Up w wr ∧ Row 57 wr w.heap.size zeros ∧ Row 57 wr (w.heap.size + 1) (vsets zeros (l.take k))) (fun _ s8 _ => l.length - (intOf s8).toNat)
  case atStart => exact ⟨0, rfl, Nat.zero_le _, (.of (by repeat (first | exact Ext.refl _ | refine Ext.up ?_ _ | refine Ext.alloc ?_ _ | refine Ext.drew ?_ | refine Ext.setRow ?_ (by first | (dsimp only; omega) | exact LeS.le | exact LeS.add _ | (simp; done) | (simp; omega)) _ | refine Ext.setCell ?_ (by first | (dsimp only; omega) | exact LeS.le | exact LeS.add _ | (simp; done) | (simp; omega)) _))), Row.of_eq (heap_alloc2_old _ _ _) vA_zeros.symm, Row.of_eq (heap_alloc2_new _ _ _) vA_zeros.symm⟩
  case round =>
    obtain ⟨k, rfl, hk, ⟨z, rfl⟩, r0, r1⟩ := hrel
    by_cases hlt : k < l.length
    · obtain ⟨x, hxk⟩ := getElem?_some_of_lt hlt
      obtain ⟨b, off, rfl, hb, hcc⟩ := hc k x hxk
      have c0 : w.cell? ⟨b, off + k * 2, none⟩ = some (.int .i64 x.k) := hcc 0 _ rfl
      have c1 : w.cell? ⟨b, off + k * 2 + 1, none⟩ = some (.int .i64 x.v) := hcc 1 _ rfl
      obtain ⟨k0, k1, _, _⟩ := entsOk_at Hok.out hxk
      obtain ⟨y, hy⟩ := getElem?_some_of_lt (l := vsets zeros (l.take k)) (k := x.k.toNat) (by rw [vsets_length, zeros_length]; omega)
      have d0 := r1.cell hy
      have f0 := r1.frozen x.k.toNat
      have hL := r1.lts
      have R0 := Lib.hid r0; have R1 := Lib.hid r1
      have Hs := Lib.hid (vsets_snoc zeros hxk)
      clear hc hcc hxk hy r0 r1
      go_wp2_with fail
      go_roundw
      case rel => exact ⟨k + 1, by go_num, by omega, (.of (by repeat (first | exact Ext.refl _ | refine Ext.up ?_ _ | refine Ext.alloc ?_ _ | refine Ext.drew ?_ | refine Ext.setRow ?_ (by first | (dsimp only; omega) | exact LeS.le | exact LeS.add _ | (simp; done) | (simp; omega)) _ | refine Ext.setCell ?_ (by first | (dsimp only; omega) | exact LeS.le | exact LeS.add _ | (simp; done) | (simp; omega)) _))), (R0.out.alloc _).other _ (by simp), by rw [Hs.out]; exact (R1.out.alloc _).set _ _⟩
      case measure => simp [intOf]; omega
    · obtain rfl : k = l.length := by omega
      rw [List.take_length] at r1
      have R1 := Lib.hid r1; have R0 := Lib.hid r0
      clear r1 r0
      go_wp2_with (first | (refine wpList_load_row rfl _ _ rfl _ rfl _ _ _ _ R1.out.eq Try.underlying57 rfl (by rw [vA_size, vsets_length, zeros_length]; exact Try.sVals) ?_) | (refine wpList_store_row rfl _ _ _ rfl _ _ rfl rfl _ _ R0.out.eq (by rw [vA_size, vsets_length, zeros_length]; exact Try.sVals) (by rw [vA_size, vA_size, vsets_length]) (vA_one _) ?_))
      refine bodyPost_ret (results_cell_row (p := 2) (by kernel_rfl) _ _ w.heap.size _ (vA (valsOf l)) (0, 0) _ rfl (R0.out.setRow _).eq Try.underlying57 rfl (by rw [vA_size, valsOf_length]; exact Try.sVals)) rfl ⟨rfl, (.of (by repeat (first | exact Ext.refl _ | refine Ext.up ?_ _ | refine Ext.alloc ?_ _ | refine Ext.drew ?_ | refine Ext.setRow ?_ (by first | (dsimp only; omega) | exact LeS.le | exact LeS.add _ | (simp; done) | (simp; omega)) _ | refine Ext.setCell ?_ (by first | (dsimp only; omega) | exact LeS.le | exact LeS.add _ | (simp; done) | (simp; omega)) _)))⟩
set_option maxRecDepth 100000 in
set_option maxHeartbeats 1000000 in
theorem store_any (v : List Int) (w : World) (hv : v.length = 32) :
    Calls Try.prog 32 #[.agg (vA v)] w fun e w' => ∃ v', e = .returned v' ∧ Up w w' ∧ Own Ent.enc 61 2 w.heap.size w' v' (storeOf v) := by
  have R0 := Lib.hid (Row.new 57 w v)
  have Hv := Lib.hid hv; clear hv
  go_enter Try.func32, Try.ntmps32
  go_wp2_with ((refine wpList_load_row rfl _ _ rfl _ rfl _ _ _ _ R0.out.eq Try.underlying57 rfl (by rw [vA_size, Hv.out]; exact Try.sVals) ?_))
  go_loopw [3, 4, 5, 7] (fun s3 _ _ s7 wr => ∃ k : Nat, s7 = .int .i64 k ∧ k ≤ 32 ∧ Up w wr ∧ Own Ent.enc 61 2 w.heap.size wr s3 (stTo v k)) (fun _ _ _ s7 _ => 32 - (intOf s7).toNat)
  case atStart => exact ⟨0, rfl, Nat.zero_le _, (.of (by repeat (first | exact Ext.refl _ | refine Ext.up ?_ _ | refine Ext.alloc ?_ _ | refine Ext.drew ?_ | refine Ext.setRow ?_ (by first | (dsimp only; omega) | exact LeS.le | exact LeS.add _ | (simp; done) | (simp; omega)) _ | refine Ext.setCell ?_ (by first | (dsimp only; omega) | exact LeS.le | exact LeS.add _ | (simp; done) | (simp; omega)) _))), Own.nil _ _ _ _ _⟩
  case round =>
    obtain ⟨k, rfl, hk, ⟨z, rfl⟩, hown⟩ := hrel
    by_cases hlt : k < 32
    · obtain ⟨x, hx⟩ := getElem?_some_of_lt (l := v) (k := k) (by rw [Hv.out]; exact hlt)
      have hix := run_index_vA Try.underlying57 Try.underlying3 Try.sInt (i := (k : Int)) (by omega) (by omega) hx
      have k0 : (0 : Int) ≤ k := by omega
      have k1 : (k : Int) < 32 := by omega
      have hle : (stTo v k).length ≤ k := stTo_len v k
      have Hown := Lib.hid hown
      by_cases hp : 0 < x
      · have Hs := Lib.hid (stTo_yes hx hp)
        have hp' : decide (0 < x) = true := by simpa using hp
        clear hown hx
        go_wp2_with (at_builtin; refine wpList_push1 fEnt rfl (.tmp 13) (.tmp 17) rfl Ent.enc w ⟨(k : Int), x⟩ (stTo v k) rfl (Hown.out.up (by repeat (first | exact Ext.refl _ | refine Ext.up ?_ _ | refine Ext.alloc ?_ _ | refine Ext.drew ?_ | refine Ext.setRow ?_ (by first | (dsimp only; omega) | exact LeS.le | exact LeS.add _ | (simp; done) | (simp; omega)) _ | refine Ext.setCell ?_ (by first | (dsimp only; omega) | exact LeS.le | exact LeS.add _ | (simp; done) | (simp; omega)) _))) (by repeat (first | exact Ext.refl _ | refine Ext.up ?_ _ | refine Ext.alloc ?_ _ | refine Ext.drew ?_ | refine Ext.setRow ?_ (by first | (dsimp only; omega) | exact LeS.le | exact LeS.add _ | (simp; done) | (simp; omega)) _ | refine Ext.setCell ?_ (by first | (dsimp only; omega) | exact LeS.le | exact LeS.add _ | (simp; done) | (simp; omega)) _)) rfl (by go_simp) rfl rfl (oneE _) (by omega) (by omega) ?_; intro v1 z1 hown1)
        have hown2 := Lib.hid hown1; clear hown1
        go_wp2_with fail
        go_roundw
        case rel => exact ⟨k + 1, by go_num, by omega, (.of (by repeat (first | exact Ext.refl _ | refine Ext.up ?_ _ | refine Ext.alloc ?_ _ | refine Ext.drew ?_ | refine Ext.setRow ?_ (by first | (dsimp only; omega) | exact LeS.le | exact LeS.add _ | (simp; done) | (simp; omega)) _ | refine Ext.setCell ?_ (by first | (dsimp only; omega) | exact LeS.le | exact LeS.add _ | (simp; done) | (simp; omega)) _))), by rw [Hs.out]; exact hown2.out⟩
        case measure => simp [intOf]; omega
      · have Hs := Lib.hid (stTo_no hx hp)
        have hp' : decide (0 < x) = false := by simpa using hp
        clear hown hx
        go_wp2_with fail
        go_roundw
        case rel => exact ⟨k + 1, by go_num, by omega, (.of (by repeat (first | exact Ext.refl _ | refine Ext.up ?_ _ | refine Ext.alloc ?_ _ | refine Ext.drew ?_ | refine Ext.setRow ?_ (by first | (dsimp only; omega) | exact LeS.le | exact LeS.add _ | (simp; done) | (simp; omega)) _ | refine Ext.setCell ?_ (by first | (dsimp only; omega) | exact LeS.le | exact LeS.add _ | (simp; done) | (simp; omega)) _))), by rw [Hs.out]; exact Hown.out.up (by repeat (first | exact Ext.refl _ | refine Ext.up ?_ _ | refine Ext.alloc ?_ _ | refine Ext.drew ?_ | refine Ext.setRow ?_ (by first | (dsimp only; omega) | exact LeS.le | exact LeS.add _ | (simp; done) | (simp; omega)) _ | refine Ext.setCell ?_ (by first | (dsimp only; omega) | exact LeS.le | exact LeS.add _ | (simp; done) | (simp; omega)) _))⟩
        case measure => simp [intOf]; omega
    · go_wp2_with fail
      go_ret
      obtain rfl : k = 32 := by omega
      exact ⟨_, rfl, ⟨z, rfl⟩, hown⟩
end Go.Proofs.Yteiemjebdhmnaaa
namespace Go.Proofs.Yteiemjebdhmnaaa
open Go Go.RowKit Go.Proofs

def verOrd (x y : Ver) : Int := or2 (x.k - y.k) (x.b - y.b)
def verIn (x : Ver) : Bool := inR x.k 0 31 && (inR x.b 0 9 && inR x.v 0 1000000)
def verLt (x y : Ver) : Bool := decide (verOrd x y < 0)
def verAt (l : List Ver) (i : Nat) : Bool := match l[i]? with
  | none => true
  | some x => verIn x && (decide (i = 0) || match l[i - 1]? with | none => true | some y => verLt y x)
theorem verAt_in {l : List Ver} {i : Nat} {x : Ver} (h : l[i]? = some x) (hf : verIn x = false) : verAt l i = false := by simp [verAt, h, hf]
theorem verAt_first {l : List Ver} {i : Nat} {x : Ver} (h : l[i]? = some x) (hi : ¬ 0 < i) : verAt l i = verIn x := by
  obtain rfl : i = 0 := by omega
  simp [verAt, h]
theorem verAt_next {l : List Ver} {i : Nat} {x y : Ver} (h : l[i]? = some x) (hi : 0 < i) (hy : l[i - 1]? = some y) : verAt l i = (verIn x && verLt y x) := by
  have : i ≠ 0 := by omega
  simp [verAt, h, hy, this]
def versOk (l : List Ver) : Bool := upTo (verAt l) l.length

theorem verLt_iff (x y : Ver) : verLt x y = true ↔ (x.k < y.k ∨ (x.k = y.k ∧ x.b < y.b)) := by
  unfold verLt verOrd or2
  rw [decide_eq_true_iff]
  by_cases h : x.k - y.k = 0
  · rw [if_pos h]; omega
  · rw [if_neg h]; omega
theorem verLt_not {x y : Ver} (h : ¬ (x.k < y.k ∨ (x.k = y.k ∧ x.b < y.b))) : verLt x y = false := by
  rw [← verLt_iff] at h; simpa using h

end Go.Proofs.Yteiemjebdhmnaaa
namespace Go.Proofs.Yteiemjebdhmnaaa
open Go Go.RowKit Go.Proofs

set_option maxHeartbeats 2000000 in
theorem sStoreValid_any (l : List Ent) (v : Value) (w : World) (h : SL (RF Ent.enc) 2 w v l) :
    Calls Try.prog 35 #[v] w fun e w' => e = .returned (.bool (entsOk 1 l)) ∧ Up w w' := by
  obtain ⟨a, cap, rfl, hlen, hc⟩ := h.open
  clear h
  go_enter Try.func35, Try.ntmps35
  go_wp2_with fail
  go_loopw [3] (fun s3 wr => ∃ k : Nat, s3 = .int .i64 k ∧ k ≤ l.length ∧ upTo (entAt 1 l) k = true ∧ Up w wr) (fun s3 _ => l.length - (intOf s3).toNat)
  case atStart => exact ⟨0, rfl, Nat.zero_le _, rfl, .of (Ext.refl _)⟩
  case round =>
    obtain ⟨k, rfl, hk, hall, z, rfl⟩ := hrel
    by_cases hlt : k < l.length
    · obtain ⟨x, hxk⟩ := getElem?_some_of_lt hlt
      obtain ⟨b, off, rfl, hb, hcc⟩ := hc k x hxk
      have c0 : w.cell? ⟨b, off + k * 2, none⟩ = some (.int .i64 x.k) := hcc 0 _ rfl
      have c1 : w.cell? ⟨b, off + k * 2 + 1, none⟩ = some (.int .i64 x.v) := hcc 1 _ rfl
      have kk : (0 : Int) ≤ (k : Int) := by omega
      have kl : (k : Int) < l.length := by omega
      clear hcc
      by_cases h0 : 0 < k
      · obtain ⟨y, hyk⟩ := getElem?_some_of_lt (show k - 1 < l.length by omega)
        obtain ⟨b', off', hbo, _, hdd⟩ := hc (k - 1) y hyk
        simp only [Option.some.injEq, Addr.mk.injEq, and_true] at hbo
        obtain ⟨rfl, rfl⟩ := hbo
        have d0 : w.cell? ⟨b, off + (k - 1) * 2, none⟩ = some (.int .i64 y.k) := hdd 0 _ rfl
        have Hall := Lib.hid hall; have Hat := Lib.hid (entAt_next (least := 1) hxk h0 hyk)
        have k0 : decide ((0 : Int) < (k : Int)) = true := by simpa using h0
        have ks : IntKind.i64.wrap ((k : Int) - 1) = ((k - 1 : Nat) : Int) := by rw [IntWalk.i64_in _ (by omega)]; omega
        have ks0 : (0 : Int) ≤ (k : Int) - 1 := by omega
        have ks1 : (k : Int) - 1 < l.length := by omega
        have ks2 : ((k : Int) - 1).toNat = k - 1 := by omega
        clear hc hdd hxk hall hyk
        rcases guards2 (inR x.k 0 31) (inR x.v 1 1000000) with h1 | ⟨h1, h2⟩ | ⟨h1, h2⟩
        case inr.inr =>
          by_cases g : y.k < x.k
          · have g' : decide (x.k ≤ y.k) = false := by simpa using g
            go_wp2_with fail
            (refine wp_region_up (by kernel_rfl) (by kernel_rfl) ?_; (repeat (go_big_quiet_step ((go_at_call 36; exact Calls.up_same (l1In_any _ _ _ _))))); refine wpQuiet_nil ?_; intro _ hw'; obtain ⟨zq, hw''⟩ := hw'; subst hw'')
            go_wp2_with fail
            go_roundw
            case rel => exact ⟨k + 1, by go_num, by omega, upTo_succ Hall.out (by rw [Hat.out, h1, h2]; simpa using g), (.of (by repeat (first | exact Ext.refl _ | refine Ext.up ?_ _ | refine Ext.alloc ?_ _ | refine Ext.drew ?_ | refine Ext.setRow ?_ (by first | (dsimp only; omega) | exact LeS.le | exact LeS.add _ | (simp; done) | (simp; omega)) _ | refine Ext.setCell ?_ (by first | (dsimp only; omega) | exact LeS.le | exact LeS.add _ | (simp; done) | (simp; omega)) _)))⟩
            case measure => simp [intOf]; omega
          · have g' : decide (x.k ≤ y.k) = true := by simpa using g
            go_wp2_with fail
            (refine wp_region_up (by kernel_rfl) (by kernel_rfl) ?_; (repeat (go_big_quiet_step ((go_at_call 36; exact Calls.up_same (l1In_any _ _ _ _))))); refine wpQuiet_nil ?_; intro _ hw'; obtain ⟨zq, hw''⟩ := hw'; subst hw'')
            go_wp2_with fail
            go_ret
            refine ⟨?_, (.of (by repeat (first | exact Ext.refl _ | refine Ext.up ?_ _ | refine Ext.alloc ?_ _ | refine Ext.drew ?_ | refine Ext.setRow ?_ (by first | (dsimp only; omega) | exact LeS.le | exact LeS.add _ | (simp; done) | (simp; omega)) _ | refine Ext.setCell ?_ (by first | (dsimp only; omega) | exact LeS.le | exact LeS.add _ | (simp; done) | (simp; omega)) _)))⟩
            show Ending.returned (.bool false) = _
            rw [entsOk, upTo_false hlt (by rw [Hat.out, h1, h2]; simpa using g)]
        all_goals
          go_wp2_with fail
          (refine wp_region_up (by kernel_rfl) (by kernel_rfl) ?_; (repeat (go_big_quiet_step ((go_at_call 36; exact Calls.up_same (l1In_any _ _ _ _))))); refine wpQuiet_nil ?_; intro _ hw'; obtain ⟨zq, hw''⟩ := hw'; subst hw'')
          go_wp2_with fail
          go_ret
          refine ⟨?_, (.of (by repeat (first | exact Ext.refl _ | refine Ext.up ?_ _ | refine Ext.alloc ?_ _ | refine Ext.drew ?_ | refine Ext.setRow ?_ (by first | (dsimp only; omega) | exact LeS.le | exact LeS.add _ | (simp; done) | (simp; omega)) _ | refine Ext.setCell ?_ (by first | (dsimp only; omega) | exact LeS.le | exact LeS.add _ | (simp; done) | (simp; omega)) _)))⟩
          show Ending.returned (.bool false) = _
          rw [entsOk, upTo_false hlt (by rw [Hat.out]; simp [*])]
      · have Hall := Lib.hid hall; have Hat := Lib.hid (entAt_first (least := 1) hxk h0)
        have k0 : decide ((0 : Int) < (k : Int)) = false := by simpa using h0
        clear hc hxk hall
        rcases guards2 (inR x.k 0 31) (inR x.v 1 1000000) with h1 | ⟨h1, h2⟩ | ⟨h1, h2⟩
        case inr.inr =>
          go_wp2_with fail
          (refine wp_region_up (by kernel_rfl) (by kernel_rfl) ?_; (repeat (go_big_quiet_step ((go_at_call 36; exact Calls.up_same (l1In_any _ _ _ _))))); refine wpQuiet_nil ?_; intro _ hw'; obtain ⟨zq, hw''⟩ := hw'; subst hw'')
          go_wp2_with fail
          go_roundw
          case rel => exact ⟨k + 1, by go_num, by omega, upTo_succ Hall.out (by rw [Hat.out, h1, h2]; rfl), (.of (by repeat (first | exact Ext.refl _ | refine Ext.up ?_ _ | refine Ext.alloc ?_ _ | refine Ext.drew ?_ | refine Ext.setRow ?_ (by first | (dsimp only; omega) | exact LeS.le | exact LeS.add _ | (simp; done) | (simp; omega)) _ | refine Ext.setCell ?_ (by first | (dsimp only; omega) | exact LeS.le | exact LeS.add _ | (simp; done) | (simp; omega)) _)))⟩
          case measure => simp [intOf]; omega
        all_goals
          go_wp2_with fail
          (refine wp_region_up (by kernel_rfl) (by kernel_rfl) ?_; (repeat (go_big_quiet_step ((go_at_call 36; exact Calls.up_same (l1In_any _ _ _ _))))); refine wpQuiet_nil ?_; intro _ hw'; obtain ⟨zq, hw''⟩ := hw'; subst hw'')
          go_wp2_with fail
          go_ret
          refine ⟨?_, (.of (by repeat (first | exact Ext.refl _ | refine Ext.up ?_ _ | refine Ext.alloc ?_ _ | refine Ext.drew ?_ | refine Ext.setRow ?_ (by first | (dsimp only; omega) | exact LeS.le | exact LeS.add _ | (simp; done) | (simp; omega)) _ | refine Ext.setCell ?_ (by first | (dsimp only; omega) | exact LeS.le | exact LeS.add _ | (simp; done) | (simp; omega)) _)))⟩
          show Ending.returned (.bool false) = _
          rw [entsOk, upTo_false hlt (by rw [Hat.out]; simp [*])]
    · go_wp2_with fail
      go_ret
      obtain rfl : k = l.length := by omega
      refine ⟨?_, z, rfl⟩; show Ending.returned (.bool true) = _; rw [entsOk, hall]
set_option maxHeartbeats 1000000 in
theorem l2At_any (l : List Ent) (v : Value) (key : Int) (w : World) (h : SL (RF Ent.enc) 2 w v l) :
    Calls Try.prog 98 #[v, .int .i64 key] w fun e w' => e = .returned (.int .i64 (atK l key)) ∧ w = w' := by
  obtain ⟨a, cap, rfl, hlen, hc⟩ := h.open
  clear h
  go_enter Try.func98, Try.ntmps98
  go_wp2_with fail
  go_loop [5] (fun s5 => ∃ k : Nat, s5 = .int .i64 k ∧ k ≤ l.length ∧ noK l key k = true) (fun s5 => l.length - (intOf s5).toNat)
  case atStart => exact ⟨0, rfl, Nat.zero_le _, rfl⟩
  case round =>
    obtain ⟨k, rfl, hk, hall⟩ := hrel
    by_cases hlt : k < l.length
    · obtain ⟨x, hxk⟩ := getElem?_some_of_lt hlt
      obtain ⟨b, off, rfl, hb, hcc⟩ := hc k x hxk
      have c0 : w.cell? ⟨b, off + k * 2, none⟩ = some (.int .i64 x.k) := hcc 0 _ rfl
      have c1 : w.cell? ⟨b, off + k * 2 + 1, none⟩ = some (.int .i64 x.v) := hcc 1 _ rfl
      have Hx := Lib.hid hxk; have Hall := Lib.hid hall
      clear hcc hc hxk hall
      rcases ne_cases x.k key with ⟨h1, _⟩ | ⟨h1, _⟩
      · have h1' : (x.k == key) = false := by simpa using h1
        go_wp2_with fail
        go_round
        case rel => exact ⟨k + 1, by go_num, by omega, noK_next Hall.out Hx.out h1⟩
        case measure => simp [intOf]; omega
      · have h1' : (x.k == key) = true := by simpa using h1
        have H1 := Lib.hid h1; clear h1
        go_wp2_with fail
        go_ret
        exact ⟨by rw [atK_found Hall.out Hx.out H1.out]; rfl, rfl⟩
    · go_wp2_with fail
      go_ret
      obtain rfl : k = l.length := by omega
      exact ⟨by rw [atK_none hall]; rfl, rfl⟩
end Go.Proofs.Yteiemjebdhmnaaa
