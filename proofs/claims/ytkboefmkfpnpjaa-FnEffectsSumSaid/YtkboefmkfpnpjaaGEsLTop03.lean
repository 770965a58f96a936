/- Walks: stores and the values of all keys. Walks: versions. -/
import Derived.Test.YtkboefmkfpnpjaaGEsLTop02
import Derived.Test.YtkboefmkfpnpjaaGEsLTop01
import Derived.Test.YtkboefmkfpnpjaaProg
set_option linter.unusedSimpArgs false
set_option linter.unusedVariables false
namespace Go.Proofs.Ytkboefmkfpnpjaa
open Go Go.RowKit Go.Proofs

theorem vA_zeros : vA zeros = #[.int .i64 0, .int .i64 0, .int .i64 0, .int .i64 0, .int .i64 0, .int .i64 0, .int .i64 0, .int .i64 0, .int .i64 0, .int .i64 0, .int .i64 0, .int .i64 0, .int .i64 0, .int .i64 0, .int .i64 0, .int .i64 0, .int .i64 0, .int .i64 0, .int .i64 0, .int .i64 0, .int .i64 0, .int .i64 0, .int .i64 0, .int .i64 0, .int .i64 0, .int .i64 0, .int .i64 0, .int .i64 0, .int .i64 0, .int .i64 0, .int .i64 0, .int .i64 0] := rfl
theorem Try.sInt : (Try.prog.info? 3).map (·.size) = some 1 := by kernel_rfl
theorem Try.sVals : (Try.prog.info? 99).map (·.size) = some 32 := by kernel_rfl
/-- The key of the entry before, -1 ahead of the first. -/
def lastK (l : List Ent) (k : Nat) : Int := if k = 0 then -1 else match l[k - 1]? with | some x => x.k | none => -1
theorem lastK_in {least : Int} {l : List Ent} {k : Nat} (h : upTo (entAt least l) k = true) : -1 ≤ lastK l k ∧ lastK l k ≤ 31 := by
  unfold lastK
  split
  · omega
  · split
    · rename_i x hx
      have := entAt_in hx (upTo_iff.1 h (k - 1) (by omega))
      omega
    · omega
theorem lastK_next {l : List Ent} {k : Nat} {x : Ent} (h : l[k]? = some x) : lastK l (k + 1) = x.k := by simp [lastK, h]
theorem entAt_last {least : Int} {l : List Ent} {k : Nat} {x : Ent} (hx : l[k]? = some x) (h : upTo (entAt least l) k = true) : entAt least l k = (inR x.k (lastK l k + 1) 31 && inR x.v least 1000000) := by
  by_cases h0 : 0 < k
  · obtain ⟨y, hy⟩ := getElem?_some_of_lt (show k - 1 < l.length by have := (List.getElem?_eq_some_iff.1 hx).1; omega)
    have hin := entAt_in hy (upTo_iff.1 h (k - 1) (by omega))
    have e : lastK l k = y.k := by unfold lastK; rw [if_neg (by omega), hy]
    rw [entAt_next hx h0 hy, e, Bool.eq_iff_iff]
    simp only [Bool.and_eq_true, inR_iff, decide_eq_true_eq]
    omega
  · have e : lastK l k = -1 := by unfold lastK; rw [if_pos (by omega)]
    rw [entAt_first hx h0, e]; rfl
set_option maxHeartbeats 1000000 in
theorem entriesValid_any (l : List Ent) (v : Value) (least : Int) (w : World) (h : SL (RF Ent.enc) 2 w v l) :
    Calls Try.prog 89 #[v, .int .i64 least] w fun e w' => e = .returned (.bool (entsOk least l)) ∧ Up w w' := by
  obtain ⟨a, cap, rfl, hlen, hc⟩ := h.open
  clear h
  go_enter Try.func89, Try.ntmps89
  go_wp2_with fail
  go_loopw [5, 7, 10] (fun s5 _ s10 wr => ∃ k : Nat, s10 = .int .i64 k ∧ s5 = .int .i64 (lastK l k) ∧ k ≤ l.length ∧ upTo (entAt least l) k = true ∧ Up w wr) (fun _ _ s10 _ => l.length - (intOf s10).toNat)
  case atStart => exact ⟨0, rfl, rfl, Nat.zero_le _, rfl, .of (Ext.refl _)⟩
  case round =>
    obtain ⟨k, rfl, rfl, hk, hall, z, rfl⟩ := hrel
    by_cases hlt : k < l.length
    · obtain ⟨x, hxk⟩ := getElem?_some_of_lt hlt
      obtain ⟨b, off, rfl, hb, hcc⟩ := hc k x hxk
      have c0 : w.cell? ⟨b, off + k * 2, none⟩ = some (.int .i64 x.k) := hcc 0 _ rfl
      have c1 : w.cell? ⟨b, off + k * 2 + 1, none⟩ = some (.int .i64 x.v) := hcc 1 _ rfl
      obtain ⟨l0, l1⟩ := lastK_in hall
      have Hat := Lib.hid (entAt_last hxk hall)
      have Hn := Lib.hid (lastK_next hxk)
      have Hall := Lib.hid hall
      clear hc hcc hxk hall
      rcases guards2 (inR x.k (lastK l k + 1) 31) (inR x.v least 1000000) with h1 | ⟨h1, h2⟩ | ⟨h1, h2⟩
      case inr.inr =>
        go_wp2_with (go_at_call 88; refine (in_any _ _ _ _).mono ?_; rintro e w' ⟨rfl, rfl⟩)
        go_roundw
        case rel => exact ⟨k + 1, by go_num, by rw [Hn.out], by omega, upTo_succ Hall.out (by rw [Hat.out, h1, h2]; rfl), (.of (by repeat (first | exact Ext.refl _ | refine Ext.up ?_ _ | refine Ext.alloc ?_ _ | refine Ext.drew ?_ | refine Ext.setRow ?_ (by first | (dsimp only; omega) | exact LeS.le | exact LeS.add _ | (simp; done) | (simp; omega)) _ | refine Ext.setCell ?_ (by first | (dsimp only; omega) | exact LeS.le | exact LeS.add _ | (simp; done) | (simp; omega)) _)))⟩
        case measure => simp [intOf]; omega
      all_goals
        go_wp2_with (go_at_call 88; refine (in_any _ _ _ _).mono ?_; rintro e w' ⟨rfl, rfl⟩)
        go_ret
        refine ⟨?_, (.of (by repeat (first | exact Ext.refl _ | refine Ext.up ?_ _ | refine Ext.alloc ?_ _ | refine Ext.drew ?_ | refine Ext.setRow ?_ (by first | (dsimp only; omega) | exact LeS.le | exact LeS.add _ | (simp; done) | (simp; omega)) _ | refine Ext.setCell ?_ (by first | (dsimp only; omega) | exact LeS.le | exact LeS.add _ | (simp; done) | (simp; omega)) _)))⟩
        show Ending.returned (.bool false) = _
        rw [entsOk, upTo_false hlt (by rw [Hat.out]; simp [*])]
    · go_wp2_with fail
      go_ret
      obtain rfl : k = l.length := by omega
      refine ⟨?_, z, rfl⟩; show Ending.returned (.bool true) = _; rw [entsOk, hall]
theorem iStoreValid_any (l : List Ent) (v : Value) (w : World) (h : SL (RF Ent.enc) 2 w v l) :
    Calls Try.prog 68 #[v] w fun e w' => e = .returned (.bool (entsOk 1 l)) ∧ Up w w' := by
  have H := Lib.hid h; clear h
  go_enter Try.func68, Try.ntmps68
  go_wp2_with (go_at_call 89; refine (entriesValid_any l _ _ _ H.out).mono ?_; rintro e w' ⟨rfl, z, rfl⟩)
  go_ret
  exact ⟨rfl, z, rfl⟩
set_option maxHeartbeats 1000000 in
theorem valuesOf_any (least : Int) (l : List Ent) (v : Value) (w : World) (h : SL (RF Ent.enc) 2 w v l) (hok : entsOk least l = true) :
    Calls Try.prog 71 #[v] w fun e w' => e = .returned (.agg (vA (valsOf l))) ∧ Up w w' := by
  obtain ⟨a, cap, rfl, hlen, hc⟩ := h.open
  clear h
  have Hok := Lib.hid hok; clear hok
  go_enter Try.func71, Try.ntmps71
  go_wp2_with fail
  go_loopw [5, 8] (fun _ s8 wr => ∃ k : Nat, s8 = .int .i64 k ∧ k ≤ l.length ∧ Up w wr ∧ Row 99 wr w.heap.size zeros ∧ Row 99 wr (w.heap.size + 1) (vsets zeros (l.take k))) (fun _ s8 _ => l.length - (intOf s8).toNat)
  case atStart => exact ⟨0, rfl, Nat.zero_le _, (.of (by repeat (first | exact Ext.refl _ | refine Ext.up ?_ _ | refine Ext.alloc ?_ _ | refine Ext.drew ?_ | refine Ext.setRow ?_ (by first | (dsimp only; omega) | exact LeS.le | exact LeS.add _ | (simp; done) | (simp; omega)) _ | refine Ext.setCell ?_ (by first | (dsimp only; omega) | exact LeS.le | exact LeS.add _ | (simp; done) | (simp; omega)) _))), Row.of_eq (heap_alloc2_old _ _ _) vA_zeros.symm, Row.of_eq (heap_alloc2_new _ _ _) vA_zeros.symm⟩
  case round =>
    obtain ⟨k, rfl, hk, ⟨z, rfl⟩, r0, r1⟩ := hrel
    by_cases hlt : k < l.length
    · obtain ⟨x, hxk⟩ := getElem?_some_of_lt hlt
      obtain ⟨b, off, rfl, hb, hcc⟩ := hc k x hxk
      have c0 : w.cell? ⟨b, off + k * 2, none⟩ = some (.int .i64 x.k) := hcc 0 _ rfl
      have c1 : w.cell? ⟨b, off + k * 2 + 1, none⟩ = some (.int .i64 x.v) := hcc 1 _ rfl
      obtain ⟨k0, k1, _, _⟩ := entsOk_at Hok.out hxk
      obtain ⟨y, hy⟩ := getElem?_some_of_lt (l := vsets zeros (l.take k)) (k := x.k.toNat) (by rw [vsets_length, zeros_length]; omega)
      have d0 := r1.cell hy
      have f0 := r1.frozen x.k.toNat
      have hL := r1.lts
      have R0 := Lib.hid r0; have R1 := Lib.hid r1
      have Hs := Lib.hid (vsets_snoc zeros hxk)
      clear hc hcc hxk hy r0 r1
      go_wp2_with fail
      go_roundw
      case rel => exact ⟨k + 1, by go_num, by omega, (.of (by repeat (first | exact Ext.refl _ | refine Ext.up ?_ _ | refine Ext.alloc ?_ _ | refine Ext.drew ?_ | refine Ext.setRow ?_ (by first | (dsimp only; omega) | exact LeS.le | exact LeS.add _ | (simp; done) | (simp; omega)) _ | refine Ext.setCell ?_ (by first | (dsimp only; omega) | exact LeS.le | exact LeS.add _ | (simp; done) | (simp; omega)) _))), (R0.out.alloc _).other _ (by simp), by rw [Hs.out]; exact (R1.out.alloc _).set _ _⟩
      case measure => simp [intOf]; omega
    · obtain rfl : k = l.length := by omega
      rw [List.take_length] at r1
      have R1 := Lib.hid r1; have R0 := Lib.hid r0
      clear r1 r0
      go_wp2_with (first | (refine wpList_load_row rfl _ _ rfl _ rfl _ _ _ _ R1.out.eq Try.underlying99 rfl (by rw [vA_size, vsets_length, zeros_length]; exact Try.sVals) ?_) | (refine wpList_store_row rfl _ _ _ rfl _ _ rfl rfl _ _ R0.out.eq (by rw [vA_size, vsets_length, zeros_length]; exact Try.sVals) (by rw [vA_size, vA_size, vsets_length]) (vA_one _) ?_))
      refine bodyPost_ret (results_cell_row (p := 2) (by kernel_rfl) _ _ w.heap.size _ (vA (valsOf l)) (0, 0) _ rfl (R0.out.setRow _).eq Try.underlying99 rfl (by rw [vA_size, valsOf_length]; exact Try.sVals)) rfl ⟨rfl, (.of (by repeat (first | exact Ext.refl _ | refine Ext.up ?_ _ | refine Ext.alloc ?_ _ | refine Ext.drew ?_ | refine Ext.setRow ?_ (by first | (dsimp only; omega) | exact LeS.le | exact LeS.add _ | (simp; done) | (simp; omega)) _ | refine Ext.setCell ?_ (by first | (dsimp only; omega) | exact LeS.le | exact LeS.add _ | (simp; done) | (simp; omega)) _)))⟩
set_option maxRecDepth 100000 in
set_option maxHeartbeats 1000000 in
theorem store_any (v : List Int) (w : World) (hv : v.length = 32) :
    Calls Try.prog 72 #[.agg (vA v)] w fun e w' => ∃ v', e = .returned v' ∧ Up w w' ∧ Own Ent.enc 31 2 w.heap.size w' v' (storeOf v) := by
  have R0 := Lib.hid (Row.new 99 w v)
  have Hv := Lib.hid hv; clear hv
  go_enter Try.func72, Try.ntmps72
  go_wp2_with ((refine wpList_load_row rfl _ _ rfl _ rfl _ _ _ _ R0.out.eq Try.underlying99 rfl (by rw [vA_size, Hv.out]; exact Try.sVals) ?_))
  go_loopw [3, 4, 5, 7] (fun s3 _ _ s7 wr => ∃ k : Nat, s7 = .int .i64 k ∧ k ≤ 32 ∧ Up w wr ∧ Own Ent.enc 31 2 w.heap.size wr s3 (stTo v k)) (fun _ _ _ s7 _ => 32 - (intOf s7).toNat)
  case atStart => exact ⟨0, rfl, Nat.zero_le _, (.of (by repeat (first | exact Ext.refl _ | refine Ext.up ?_ _ | refine Ext.alloc ?_ _ | refine Ext.drew ?_ | refine Ext.setRow ?_ (by first | (dsimp only; omega) | exact LeS.le | exact LeS.add _ | (simp; done) | (simp; omega)) _ | refine Ext.setCell ?_ (by first | (dsimp only; omega) | exact LeS.le | exact LeS.add _ | (simp; done) | (simp; omega)) _))), Own.nil _ _ _ _ _⟩
  case round =>
    obtain ⟨k, rfl, hk, ⟨z, rfl⟩, hown⟩ := hrel
    by_cases hlt : k < 32
    · obtain ⟨x, hx⟩ := getElem?_some_of_lt (l := v) (k := k) (by rw [Hv.out]; exact hlt)
      have hix := run_index_vA Try.underlying99 Try.underlying3 Try.sInt (i := (k : Int)) (by omega) (by omega) hx
      have k0 : (0 : Int) ≤ k := by omega
      have k1 : (k : Int) < 32 := by omega
      have hle : (stTo v k).length ≤ k := stTo_len v k
      have Hown := Lib.hid hown
      by_cases hp : 0 < x
      · have Hs := Lib.hid (stTo_yes hx hp)
        have hp' : decide (0 < x) = true := by simpa using hp
        clear hown hx
        go_wp2_with (at_builtin; refine wpList_push1 fEnt rfl (.tmp 13) (.tmp 17) rfl Ent.enc w ⟨(k : Int), x⟩ (stTo v k) rfl (Hown.out.up (by repeat (first | exact Ext.refl _ | refine Ext.up ?_ _ | refine Ext.alloc ?_ _ | refine Ext.drew ?_ | refine Ext.setRow ?_ (by first | (dsimp only; omega) | exact LeS.le | exact LeS.add _ | (simp; done) | (simp; omega)) _ | refine Ext.setCell ?_ (by first | (dsimp only; omega) | exact LeS.le | exact LeS.add _ | (simp; done) | (simp; omega)) _))) (by repeat (first | exact Ext.refl _ | refine Ext.up ?_ _ | refine Ext.alloc ?_ _ | refine Ext.drew ?_ | refine Ext.setRow ?_ (by first | (dsimp only; omega) | exact LeS.le | exact LeS.add _ | (simp; done) | (simp; omega)) _ | refine Ext.setCell ?_ (by first | (dsimp only; omega) | exact LeS.le | exact LeS.add _ | (simp; done) | (simp; omega)) _)) rfl (by go_simp) rfl rfl (oneE _) (by omega) (by omega) ?_; intro v1 z1 hown1)
        have hown2 := Lib.hid hown1; clear hown1
        go_wp2_with fail
        go_roundw
        case rel => exact ⟨k + 1, by go_num, by omega, (.of (by repeat (first | exact Ext.refl _ | refine Ext.up ?_ _ | refine Ext.alloc ?_ _ | refine Ext.drew ?_ | refine Ext.setRow ?_ (by first | (dsimp only; omega) | exact LeS.le | exact LeS.add _ | (simp; done) | (simp; omega)) _ | refine Ext.setCell ?_ (by first | (dsimp only; omega) | exact LeS.le | exact LeS.add _ | (simp; done) | (simp; omega)) _))), by rw [Hs.out]; exact hown2.out⟩
        case measure => simp [intOf]; omega
      · have Hs := Lib.hid (stTo_no hx hp)
        have hp' : decide (0 < x) = false := by simpa using hp
        clear hown hx
        go_wp2_with fail
        go_roundw
        case rel => exact ⟨k + 1, by go_num, by omega, (.of (by repeat (first | exact Ext.refl _ | refine Ext.up ?_ _ | refine Ext.alloc ?_ _ | refine Ext.drew ?_ | refine Ext.setRow ?_ (by first | (dsimp only; omega) | exact LeS.le | exact LeS.add _ | (simp; done) | (simp; omega)) _ | refine Ext.setCell ?_ (by first | (dsimp only; omega) | exact LeS.le | exact LeS.add _ | (simp; done) | (simp; omega)) _))), by rw [Hs.out]; exact Hown.out.up (by repeat (first | exact Ext.refl _ | refine Ext.up ?_ _ | refine Ext.alloc ?_ _ | refine Ext.drew ?_ | refine Ext.setRow ?_ (by first | (dsimp only; omega) | exact LeS.le | exact LeS.add _ | (simp; done) | (simp; omega)) _ | refine Ext.setCell ?_ (by first | (dsimp only; omega) | exact LeS.le | exact LeS.add _ | (simp; done) | (simp; omega)) _))⟩
        case measure => simp [intOf]; omega
    · go_wp2_with fail
      go_ret
      obtain rfl : k = 32 := by omega
      exact ⟨_, rfl, ⟨z, rfl⟩, hown⟩
end Go.Proofs.Ytkboefmkfpnpjaa
namespace Go.Proofs.Ytkboefmkfpnpjaa
open Go Go.RowKit Go.Proofs

def verOrd (x y : Ver) : Int := or2 (x.k - y.k) (x.b - y.b)
def verIn (x : Ver) : Bool := inR x.k 0 31 && (inR x.b 0 9 && inR x.v 0 1000000)
def verLt (x y : Ver) : Bool := decide (verOrd x y < 0)
def verAt (l : List Ver) (i : Nat) : Bool := match l[i]? with
  | none => true
  | some x => verIn x && (decide (i = 0) || match l[i - 1]? with | none => true | some y => verLt y x)
theorem verAt_in {l : List Ver} {i : Nat} {x : Ver} (h : l[i]? = some x) (hf : verIn x = false) : verAt l i = false := by simp [verAt, h, hf]
theorem verAt_first {l : List Ver} {i : Nat} {x : Ver} (h : l[i]? = some x) (hi : ¬ 0 < i) : verAt l i = verIn x := by
  obtain rfl : i = 0 := by omega
  simp [verAt, h]
theorem verAt_next {l : List Ver} {i : Nat} {x y : Ver} (h : l[i]? = some x) (hi : 0 < i) (hy : l[i - 1]? = some y) : verAt l i = (verIn x && verLt y x) := by
  have : i ≠ 0 := by omega
  simp [verAt, h, hy, this]
def versOk (l : List Ver) : Bool := upTo (verAt l) l.length

theorem versionOrder_any (x y : Ver) (w : World) (h1 : inR x.k 0 31 = true) (h2 : inR y.k 0 31 = true) (h3 : inR x.b 0 9 = true) (h4 : inR y.b 0 9 = true) :
    Calls Try.prog 99 #[.agg #[.int .i64 x.k, .int .i64 x.b, .int .i64 x.v], .agg #[.int .i64 y.k, .int .i64 y.b, .int .i64 y.v]] w
      fun e w' => e = .returned (.int .i64 (verOrd x y)) ∧ Up w w' := by
  obtain ⟨h1, h1'⟩ := inR_iff.1 h1; obtain ⟨h2, h2'⟩ := inR_iff.1 h2; obtain ⟨h3, h3'⟩ := inR_iff.1 h3; obtain ⟨h4, h4'⟩ := inR_iff.1 h4
  go_enter Try.func99, Try.ntmps99
  go_wp2_with (go_at_call 105; refine (cmpOr2 (x.k - y.k) (x.b - y.b) _ _ (by go_simp) (by go_simp)).mono ?_; rintro e w' ⟨rfl, rfl⟩)
  go_ret
  exact ⟨rfl, .of ((((Ext.refl _).alloc _).alloc _).alloc _)⟩

set_option maxHeartbeats 2000000 in
theorem iVersionsValid_any (l : List Ver) (v : Value) (w : World) (h : SL (RF Ver.enc) 3 w v l) :
    Calls Try.prog 43 #[v] w fun e w' => e = .returned (.bool (versOk l)) ∧ Up w w' := by
  obtain ⟨a, cap, rfl, hlen, hc⟩ := h.open
  go_enter Try.func43, Try.ntmps43
  go_wp2_with fail
  go_loopw [3, 4, 7] (fun _ _ s7 wr => ∃ k : Nat, s7 = .int .i64 k ∧ k ≤ l.length ∧ upTo (verAt l) k = true ∧ Up w wr) (fun _ _ s7 _ => l.length - (intOf s7).toNat)
  case atStart => exact ⟨0, rfl, Nat.zero_le _, rfl, .of (Ext.refl _)⟩
  case round =>
    obtain ⟨k, rfl, hk, hall, z, rfl⟩ := hrel
    by_cases hlt : k < l.length
    · obtain ⟨x, hxk⟩ := getElem?_some_of_lt hlt
      obtain ⟨b, off, rfl, hb, hcc⟩ := hc k x hxk
      have c0 : w.cell? ⟨b, off + k * 3, none⟩ = some (.int .i64 x.k) := hcc 0 _ rfl
      have c1 : w.cell? ⟨b, off + k * 3 + 1, none⟩ = some (.int .i64 x.b) := hcc 1 _ rfl
      have c2 : w.cell? ⟨b, off + k * 3 + 2, none⟩ = some (.int .i64 x.v) := hcc 2 _ rfl
      clear hcc
      by_cases h0 : 0 < k
      · obtain ⟨y, hyk⟩ := getElem?_some_of_lt (show k - 1 < l.length by omega)
        obtain ⟨b', off', hbo, _, hdd⟩ := hc (k - 1) y hyk
        simp only [Option.some.injEq, Addr.mk.injEq, and_true] at hbo
        obtain ⟨rfl, rfl⟩ := hbo
        have d0 : w.cell? ⟨b, off + (k - 1) * 3, none⟩ = some (.int .i64 y.k) := hdd 0 _ rfl
        have d1 : w.cell? ⟨b, off + (k - 1) * 3 + 1, none⟩ = some (.int .i64 y.b) := hdd 1 _ rfl
        have d2 : w.cell? ⟨b, off + (k - 1) * 3 + 2, none⟩ = some (.int .i64 y.v) := hdd 2 _ rfl
        have hyin : verIn y = true := by
          have := upTo_iff.1 hall (k - 1) (by omega)
          by_cases hk1 : 0 < k - 1
          · obtain ⟨y', hy'⟩ := getElem?_some_of_lt (show k - 1 - 1 < l.length by omega)
            rw [verAt_next hyk hk1 hy'] at this
            simp at this; exact this.1
          · rw [verAt_first hyk hk1] at this; exact this
        simp only [verIn, Bool.and_eq_true] at hyin
        obtain ⟨hy1, hy2, hy3⟩ := hyin
        have Hx := Lib.hid hxk; have Hall := Lib.hid hall; have Hy := Lib.hid hyk
        have k0 : decide ((0 : Int) < (k : Int)) = true := by simpa using h0
        clear hc hdd hxk hall hyk
        rcases guards4 (inR x.k 0 31) (inR x.b 0 9) (inR x.v 0 1000000) (verLt y x) with h1 | ⟨h1, h2⟩ | ⟨h1, h2, h3⟩ | ⟨h1, h2, h3, h4⟩ | ⟨h1, h2, h3, h4⟩
        case inr.inr.inr.inl =>
          have h4' : 0 ≤ verOrd y x := by simpa [verLt] using h4
          go_wp2_with fail
          (refine wp_region_up (by kernel_rfl) (by kernel_rfl) ?_; (repeat (go_big_quiet_step (first | (go_at_call 91; exact Calls.up_same (isKey_any _ _)) | (go_at_call 88; exact Calls.up_same (in_any _ _ _ _)) | (go_at_call 98; exact Calls.up_same (isValue_any _ _)) | (go_at_call 99; exact Calls.up (versionOrder_any y x _ hy1 h1 hy2 h2))))); refine wpQuiet_nil ?_; intro _ hw'; obtain ⟨zq, hw''⟩ := hw'; subst hw'')
          go_wp2_with fail
          go_ret
          refine ⟨?_, (.of (by repeat (first | exact Ext.refl _ | refine Ext.up ?_ _ | refine Ext.alloc ?_ _ | refine Ext.drew ?_ | refine Ext.setRow ?_ (by first | (dsimp only; omega) | exact LeS.le | exact LeS.add _ | (simp; done) | (simp; omega)) _ | refine Ext.setCell ?_ (by first | (dsimp only; omega) | exact LeS.le | exact LeS.add _ | (simp; done) | (simp; omega)) _)))⟩
          show Ending.returned (.bool false) = _
          rw [versOk, upTo_false hlt (by rw [verAt_next Hx.out h0 Hy.out, h4, Bool.and_false])]
        case inr.inr.inr.inr =>
          have h4' : verOrd y x < 0 := by simpa [verLt] using h4
          go_wp2_with fail
          (refine wp_region_up (by kernel_rfl) (by kernel_rfl) ?_; (repeat (go_big_quiet_step (first | (go_at_call 91; exact Calls.up_same (isKey_any _ _)) | (go_at_call 88; exact Calls.up_same (in_any _ _ _ _)) | (go_at_call 98; exact Calls.up_same (isValue_any _ _)) | (go_at_call 99; exact Calls.up (versionOrder_any y x _ hy1 h1 hy2 h2))))); refine wpQuiet_nil ?_; intro _ hw'; obtain ⟨zq, hw''⟩ := hw'; subst hw'')
          go_wp2_with fail
          go_roundw
          case rel => exact ⟨k + 1, by go_num, by omega, upTo_succ Hall.out (by rw [verAt_next Hx.out h0 Hy.out, h4, verIn, h1, h2, h3]; rfl), (.of (by repeat (first | exact Ext.refl _ | refine Ext.up ?_ _ | refine Ext.alloc ?_ _ | refine Ext.drew ?_ | refine Ext.setRow ?_ (by first | (dsimp only; omega) | exact LeS.le | exact LeS.add _ | (simp; done) | (simp; omega)) _ | refine Ext.setCell ?_ (by first | (dsimp only; omega) | exact LeS.le | exact LeS.add _ | (simp; done) | (simp; omega)) _)))⟩
          case measure => simp [intOf]; omega
        all_goals
          go_wp2_with fail
          (refine wp_region_up (by kernel_rfl) (by kernel_rfl) ?_; (repeat (go_big_quiet_step (first | (go_at_call 91; exact Calls.up_same (isKey_any _ _)) | (go_at_call 88; exact Calls.up_same (in_any _ _ _ _)) | (go_at_call 98; exact Calls.up_same (isValue_any _ _))))); refine wpQuiet_nil ?_; intro _ hw'; obtain ⟨zq, hw''⟩ := hw'; subst hw'')
          go_wp2_with fail
          go_ret
          refine ⟨?_, (.of (by repeat (first | exact Ext.refl _ | refine Ext.up ?_ _ | refine Ext.alloc ?_ _ | refine Ext.drew ?_ | refine Ext.setRow ?_ (by first | (dsimp only; omega) | exact LeS.le | exact LeS.add _ | (simp; done) | (simp; omega)) _ | refine Ext.setCell ?_ (by first | (dsimp only; omega) | exact LeS.le | exact LeS.add _ | (simp; done) | (simp; omega)) _)))⟩
          show Ending.returned (.bool false) = _
          rw [versOk, upTo_false hlt (verAt_in Hx.out (by simp [verIn, *]))]
      · have Hx := Lib.hid hxk; have Hall := Lib.hid hall
        clear hc hxk hall
        rcases guards3 (inR x.k 0 31) (inR x.b 0 9) (inR x.v 0 1000000) with h1 | ⟨h1, h2⟩ | ⟨h1, h2, h3⟩ | ⟨h1, h2, h3⟩
        case inr.inr.inr =>
          go_wp2_with fail
          (refine wp_region_up (by kernel_rfl) (by kernel_rfl) ?_; (repeat (go_big_quiet_step (first | (go_at_call 91; exact Calls.up_same (isKey_any _ _)) | (go_at_call 88; exact Calls.up_same (in_any _ _ _ _)) | (go_at_call 98; exact Calls.up_same (isValue_any _ _))))); refine wpQuiet_nil ?_; intro _ hw'; obtain ⟨zq, hw''⟩ := hw'; subst hw'')
          go_wp2_with fail
          go_roundw
          case rel => exact ⟨k + 1, by go_num, by omega, upTo_succ Hall.out (by rw [verAt_first Hx.out h0, verIn, h1, h2, h3]; rfl), (.of (by repeat (first | exact Ext.refl _ | refine Ext.up ?_ _ | refine Ext.alloc ?_ _ | refine Ext.drew ?_ | refine Ext.setRow ?_ (by first | (dsimp only; omega) | exact LeS.le | exact LeS.add _ | (simp; done) | (simp; omega)) _ | refine Ext.setCell ?_ (by first | (dsimp only; omega) | exact LeS.le | exact LeS.add _ | (simp; done) | (simp; omega)) _)))⟩
          case measure => simp [intOf]; omega
        all_goals
          go_wp2_with fail
          (refine wp_region_up (by kernel_rfl) (by kernel_rfl) ?_; (repeat (go_big_quiet_step (first | (go_at_call 91; exact Calls.up_same (isKey_any _ _)) | (go_at_call 88; exact Calls.up_same (in_any _ _ _ _)) | (go_at_call 98; exact Calls.up_same (isValue_any _ _))))); refine wpQuiet_nil ?_; intro _ hw'; obtain ⟨zq, hw''⟩ := hw'; subst hw'')
          go_wp2_with fail
          go_ret
          refine ⟨?_, (.of (by repeat (first | exact Ext.refl _ | refine Ext.up ?_ _ | refine Ext.alloc ?_ _ | refine Ext.drew ?_ | refine Ext.setRow ?_ (by first | (dsimp only; omega) | exact LeS.le | exact LeS.add _ | (simp; done) | (simp; omega)) _ | refine Ext.setCell ?_ (by first | (dsimp only; omega) | exact LeS.le | exact LeS.add _ | (simp; done) | (simp; omega)) _)))⟩
          show Ending.returned (.bool false) = _
          rw [versOk, upTo_false hlt (verAt_in Hx.out (by simp [verIn, *]))]
    · go_wp2_with fail
      go_ret
      obtain rfl : k = l.length := by omega
      refine ⟨?_, z, rfl⟩; show Ending.returned (.bool true) = _; rw [versOk, hall]
theorem verLt_iff (x y : Ver) : verLt x y = true ↔ (x.k < y.k ∨ (x.k = y.k ∧ x.b < y.b)) := by
  unfold verLt verOrd or2
  rw [decide_eq_true_iff]
  by_cases h : x.k - y.k = 0
  · rw [if_pos h]; omega
  · rw [if_neg h]; omega
theorem verLt_not {x y : Ver} (h : ¬ (x.k < y.k ∨ (x.k = y.k ∧ x.b < y.b))) : verLt x y = false := by
  rw [← verLt_iff] at h; simpa using h

set_option maxHeartbeats 4000000 in
theorem sVersionsValid_any (l : List Ver) (v : Value) (w : World) (h : SL (RF Ver.enc) 3 w v l) :
    Calls Try.prog 95 #[v] w fun e w' => e = .returned (.bool (versOk l)) ∧ Up w w' := by
  obtain ⟨a, cap, rfl, hlen, hc⟩ := h.open
  go_enter Try.func95, Try.ntmps95
  go_wp2_with fail
  go_loopw [3, 4] (fun s3 _ wr => ∃ k : Nat, s3 = .int .i64 k ∧ k ≤ l.length ∧ upTo (verAt l) k = true ∧ Up w wr) (fun s3 _ _ => l.length - (intOf s3).toNat)
  case atStart => exact ⟨0, rfl, Nat.zero_le _, rfl, .of (Ext.refl _)⟩
  case round =>
    obtain ⟨k, rfl, hk, hall, z, rfl⟩ := hrel
    by_cases hlt : k < l.length
    · obtain ⟨x, hxk⟩ := getElem?_some_of_lt hlt
      obtain ⟨b, off, rfl, hb, hcc⟩ := hc k x hxk
      have c0 : w.cell? ⟨b, off + k * 3, none⟩ = some (.int .i64 x.k) := hcc 0 _ rfl
      have c1 : w.cell? ⟨b, off + k * 3 + 1, none⟩ = some (.int .i64 x.b) := hcc 1 _ rfl
      have c2 : w.cell? ⟨b, off + k * 3 + 2, none⟩ = some (.int .i64 x.v) := hcc 2 _ rfl
      clear hcc
      have Hx := Lib.hid hxk; have Hall := Lib.hid hall
      rcases guards3 (inR x.k 0 31) (inR x.b 0 9) (inR x.v 0 1000000) with h1 | ⟨h1, h2⟩ | ⟨h1, h2, h3⟩ | ⟨h1, h2, h3⟩
      case inr.inr.inr =>
        by_cases h0 : 0 < k
        · obtain ⟨y, hyk⟩ := getElem?_some_of_lt (show k - 1 < l.length by omega)
          obtain ⟨b', off', hbo, _, hdd⟩ := hc (k - 1) y hyk
          simp only [Option.some.injEq, Addr.mk.injEq, and_true] at hbo
          obtain ⟨rfl, rfl⟩ := hbo
          have d0 : w.cell? ⟨b, off + (k - 1) * 3, none⟩ = some (.int .i64 y.k) := hdd 0 _ rfl
          have d1 : w.cell? ⟨b, off + (k - 1) * 3 + 1, none⟩ = some (.int .i64 y.b) := hdd 1 _ rfl
          have k0 : decide ((0 : Int) < (k : Int)) = true := by simpa using h0
          have Hy := Lib.hid hyk
          have hv := verAt_next hxk h0 hyk
          have hin : verIn x = true := by rw [verIn, h1, h2, h3]; rfl
          rw [hin, Bool.true_and] at hv
          have Hv := Lib.hid hv
          clear hc hdd hxk hall hyk hv hin
          by_cases g1 : x.k < y.k
          · have hf : verLt y x = false := verLt_not (by omega)
            have g1' : decide (x.k < y.k) = true := by simpa using g1
            go_wp2_with (go_at_call 66; refine (l1In_any _ _ _ _).mono ?_; rintro e w' ⟨rfl, rfl⟩)
            (refine wp_region_up (by kernel_rfl) (by kernel_rfl) ?_; (repeat (go_big_quiet_step (fail))); refine wpQuiet_nil ?_; intro _ hw'; obtain ⟨zq, hw''⟩ := hw'; subst hw'')
            go_wp2_with fail
            go_ret
            refine ⟨?_, (.of (by repeat (first | exact Ext.refl _ | refine Ext.up ?_ _ | refine Ext.alloc ?_ _ | refine Ext.drew ?_ | refine Ext.setRow ?_ (by first | (dsimp only; omega) | exact LeS.le | exact LeS.add _ | (simp; done) | (simp; omega)) _ | refine Ext.setCell ?_ (by first | (dsimp only; omega) | exact LeS.le | exact LeS.add _ | (simp; done) | (simp; omega)) _)))⟩
            show Ending.returned (.bool false) = _
            rw [versOk, upTo_false hlt (Hv.out.trans hf)]
          have g1' : decide (x.k < y.k) = false := by simpa using g1
          rcases ne_cases x.k y.k with ⟨g2, g2'⟩ | ⟨g2, g2'⟩
          · have hf : verLt y x = true := (verLt_iff y x).2 (by omega)
            have g2b : (x.k == y.k) = false := by simpa using g2
            go_wp2_with (go_at_call 66; refine (l1In_any _ _ _ _).mono ?_; rintro e w' ⟨rfl, rfl⟩)
            (refine wp_region_up (by kernel_rfl) (by kernel_rfl) ?_; (repeat (go_big_quiet_step (fail))); refine wpQuiet_nil ?_; intro _ hw'; obtain ⟨zq, hw''⟩ := hw'; subst hw'')
            go_wp2_with fail
            go_roundw
            case rel => exact ⟨k + 1, by go_num, by omega, upTo_succ Hall.out (Hv.out.trans hf), (.of (by repeat (first | exact Ext.refl _ | refine Ext.up ?_ _ | refine Ext.alloc ?_ _ | refine Ext.drew ?_ | refine Ext.setRow ?_ (by first | (dsimp only; omega) | exact LeS.le | exact LeS.add _ | (simp; done) | (simp; omega)) _ | refine Ext.setCell ?_ (by first | (dsimp only; omega) | exact LeS.le | exact LeS.add _ | (simp; done) | (simp; omega)) _)))⟩
            case measure => simp [intOf]; omega
          by_cases g3 : x.b ≤ y.b
          · have hf : verLt y x = false := verLt_not (by omega)
            have g2b : (x.k == y.k) = true := by simpa using g2
            have g3' : decide (x.b ≤ y.b) = true := by simpa using g3
            clear g2
            go_wp2_with (go_at_call 66; refine (l1In_any _ _ _ _).mono ?_; rintro e w' ⟨rfl, rfl⟩)
            (refine wp_region_up (by kernel_rfl) (by kernel_rfl) ?_; (repeat (go_big_quiet_step (fail))); refine wpQuiet_nil ?_; intro _ hw'; obtain ⟨zq, hw''⟩ := hw'; subst hw'')
            go_wp2_with fail
            go_ret
            refine ⟨?_, (.of (by repeat (first | exact Ext.refl _ | refine Ext.up ?_ _ | refine Ext.alloc ?_ _ | refine Ext.drew ?_ | refine Ext.setRow ?_ (by first | (dsimp only; omega) | exact LeS.le | exact LeS.add _ | (simp; done) | (simp; omega)) _ | refine Ext.setCell ?_ (by first | (dsimp only; omega) | exact LeS.le | exact LeS.add _ | (simp; done) | (simp; omega)) _)))⟩
            show Ending.returned (.bool false) = _
            rw [versOk, upTo_false hlt (Hv.out.trans hf)]
          · have hf : verLt y x = true := (verLt_iff y x).2 (by omega)
            have g2b : (x.k == y.k) = true := by simpa using g2
            have g3' : decide (x.b ≤ y.b) = false := by simpa using g3
            clear g2
            go_wp2_with (go_at_call 66; refine (l1In_any _ _ _ _).mono ?_; rintro e w' ⟨rfl, rfl⟩)
            (refine wp_region_up (by kernel_rfl) (by kernel_rfl) ?_; (repeat (go_big_quiet_step (fail))); refine wpQuiet_nil ?_; intro _ hw'; obtain ⟨zq, hw''⟩ := hw'; subst hw'')
            go_wp2_with fail
            go_roundw
            case rel => exact ⟨k + 1, by go_num, by omega, upTo_succ Hall.out (Hv.out.trans hf), (.of (by repeat (first | exact Ext.refl _ | refine Ext.up ?_ _ | refine Ext.alloc ?_ _ | refine Ext.drew ?_ | refine Ext.setRow ?_ (by first | (dsimp only; omega) | exact LeS.le | exact LeS.add _ | (simp; done) | (simp; omega)) _ | refine Ext.setCell ?_ (by first | (dsimp only; omega) | exact LeS.le | exact LeS.add _ | (simp; done) | (simp; omega)) _)))⟩
            case measure => simp [intOf]; omega
        · have k0 : decide ((0 : Int) < (k : Int)) = false := by simpa using h0
          have hv := verAt_first hxk h0
          have hin : verIn x = true := by rw [verIn, h1, h2, h3]; rfl
          have Hv := Lib.hid (hv.trans hin)
          clear hc hxk hall hv hin
          go_wp2_with (go_at_call 66; refine (l1In_any _ _ _ _).mono ?_; rintro e w' ⟨rfl, rfl⟩)
          (refine wp_region_up (by kernel_rfl) (by kernel_rfl) ?_; (repeat (go_big_quiet_step (fail))); refine wpQuiet_nil ?_; intro _ hw'; obtain ⟨zq, hw''⟩ := hw'; subst hw'')
          go_wp2_with fail
          go_roundw
          case rel => exact ⟨k + 1, by go_num, by omega, upTo_succ Hall.out Hv.out, (.of (by repeat (first | exact Ext.refl _ | refine Ext.up ?_ _ | refine Ext.alloc ?_ _ | refine Ext.drew ?_ | refine Ext.setRow ?_ (by first | (dsimp only; omega) | exact LeS.le | exact LeS.add _ | (simp; done) | (simp; omega)) _ | refine Ext.setCell ?_ (by first | (dsimp only; omega) | exact LeS.le | exact LeS.add _ | (simp; done) | (simp; omega)) _)))⟩
          case measure => simp [intOf]; omega
      all_goals
        clear hc hxk hall
        go_wp2_with (go_at_call 66; refine (l1In_any _ _ _ _).mono ?_; rintro e w' ⟨rfl, rfl⟩)
        go_ret
        refine ⟨?_, (.of (by repeat (first | exact Ext.refl _ | refine Ext.up ?_ _ | refine Ext.alloc ?_ _ | refine Ext.drew ?_ | refine Ext.setRow ?_ (by first | (dsimp only; omega) | exact LeS.le | exact LeS.add _ | (simp; done) | (simp; omega)) _ | refine Ext.setCell ?_ (by first | (dsimp only; omega) | exact LeS.le | exact LeS.add _ | (simp; done) | (simp; omega)) _)))⟩
        show Ending.returned (.bool false) = _
        rw [versOk, upTo_false hlt (verAt_in Hx.out (by simp [verIn, *]))]
    · go_wp2_with fail
      go_ret
      obtain rfl : k = l.length := by omega
      refine ⟨?_, z, rfl⟩; show Ending.returned (.bool true) = _; rw [versOk, hall]
end Go.Proofs.Ytkboefmkfpnpjaa
