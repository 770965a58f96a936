/- Walks: what an action does, on the program's side. Walks: runs, the reference's side. Walks: roots of stores. Walks: first blocks, blocks that are compared. Walks: blocks that are compared with the first one. -/
import Derived.Test.YtkboefmkfpnpjaaGEsLTop17
import Derived.Test.YtkboefmkfpnpjaaGEsLTop03
import Derived.Test.YtkboefmkfpnpjaaGEsLTop06
import Derived.Test.YtkboefmkfpnpjaaGEsLTop13
import Derived.Test.YtkboefmkfpnpjaaGEsLTop16
import Derived.Test.YtkboefmkfpnpjaaGEsLTop04
import Derived.Test.YtkboefmkfpnpjaaGEsLTop07
import Derived.Test.YtkboefmkfpnpjaaGEsLTop09
import Derived.Test.YtkboefmkfpnpjaaGEsLTop01
set_option linter.unusedSimpArgs false
set_option linter.unusedVariables false
namespace Go.Proofs.Ytkboefmkfpnpjaa
open Go Go.RowKit Go.Proofs Go.Maps

theorem rds_keys (x : Actn) (f t : Int) : (x.rds f t).map (·.k) = x.rk := by
  unfold Actn.rds
  rw [List.map_map]
  exact List.map_id _
theorem wrs_keys {x : Actn} (h : x.ok = true) (f t : Int) : (x.wrs f t).map (·.k) = x.wk := by
  obtain ⟨kd, a, b, m⟩ := x
  simp only [Actn.ok, Bool.and_eq_true, inR_iff] at h
  obtain ⟨_, _, _, hko⟩ := h
  unfold kindOk at hko
  unfold Actn.wrs Actn.wk sort2
  dsimp only at hko ⊢
  rcases kinds kd with rfl | rfl | rfl | rfl | rfl | rfl | ⟨n1, n2, n3, n4, n5, n6⟩
  all_goals (try simp)
  all_goals (try (repeat' split))
  all_goals (try simp_all)
  all_goals (try omega)
theorem rds_at {x : Actn} (hx : x.ok = true) {v : List Int} (hv : v.length = 32) : ∀ y ∈ x.rds (v.getD x.src.toNat 0) (v.getD x.dst.toNat 0), 0 ≤ y.k ∧ y.k ≤ 31 ∧ v[y.k.toNat]? = some y.v := by
  intro y hy
  unfold Actn.rds at hy
  obtain ⟨key, hk, rfl⟩ := List.mem_map.1 hy
  obtain ⟨k0, k1⟩ := Actn.rk_in hx key hk
  refine ⟨k0, k1, ?_⟩
  dsimp only
  have hd : key = x.src ∨ key = x.dst := by
    unfold Actn.rk at hk
    split at hk <;> (try split at hk) <;> simp at hk <;> first | (left; exact hk) | (right; exact hk) | exact hk
  obtain ⟨c, hc⟩ := getElem?_some_of_lt (l := v) (k := key.toNat) (by omega)
  rw [hc]
  by_cases e : key = x.src
  · rw [if_pos e, ← e]; simp [List.getD, hc]
  · rw [if_neg e]
    rcases hd with h | h
    · exact absurd h e
    · rw [← h]; simp [List.getD, hc]
theorem row4 (w : World) (a b c d : Obj) : ((((w.alloc a).alloc b).alloc c).alloc d).heap[w.heap.size + 1 + 1 + 1]? = some d ∧ ((((w.alloc a).alloc b).alloc c).alloc d).heap[w.heap.size + 1 + 1]? = some c ∧ ((((w.alloc a).alloc b).alloc c).alloc d).heap[w.heap.size + 1]? = some b := by
  have e : (w.alloc a).heap.size = w.heap.size + 1 := by simp
  have h := row3 (w.alloc a) b c d
  rw [e] at h
  refine ⟨h.1, h.2, ?_⟩
  rw [heap_alloc_old _ d (by simp), heap_alloc_old _ c (by simp)]
  exact e ▸ heap_alloc_new (w.alloc a) b
theorem keepRow' {α : Type} {enc : α → List Value} {e sz lo rb : Nat} {w W1 w7 : World} {v : Value} {l : List α} {o r : Obj} (hG : w.grownBy W1 (some rb)) (hown : Own enc e sz lo W1 v l) (hlt : rb < lo) (hw : w.heap.size ≤ lo) (hr : W1.heap[rb]? = some r) (g8 : (W1.alloc o).grownBy w7 v.ownBlock) :
    w7.heap[rb]? = some r ∧ w.grownBy w7 (some rb) := keepRow hG hown hlt hw hr (o := o) ⟨g8.os, g8.tape, g8.output, g8.size, g8.block⟩
theorem take_snocE {l : List Ent} {k : Nat} {y : Ent} (h : l[k]? = some y) : l.take (k + 1) = l.take k ++ [y] := by
  rw [List.take_add_one, h]; rfl
theorem OwnM.ne_row {P : Program} {kt : TypeId} {w : World} {b n g : Nat} {D : DataW Unit} (h : OwnM P kt w b n D) {cs : Array Value} {t : TypeId} {fr : Nat × Nat} (hr : w.heap[g]? = some (.cells cs t fr)) : b ≠ g := by
  intro e
  subst e
  obtain ⟨⟨es, clock, hb, _⟩, _⟩ := h
  rw [hb] at hr; cases hr
theorem OwnM.keep {P : Program} {kt : TypeId} {w w' : World} {b n g : Nat} {D : DataW Unit} (h : OwnM P kt w b n D) (hg : w.grownBy w' (some g)) (hne : b ≠ g) : OwnM P kt w' b n D := ⟨h.1.kept hg (by simpa using hne), h.2⟩
theorem lit_inj {D : DataW Unit} {k : Lit} {z : DataW Unit} {c v : Int} (h : D.atKey k z = .lit (.int .i64 c)) (h' : D.atKey k z = .lit (.int .i64 v)) : c = v := by rw [h] at h'; cases h'; rfl
theorem wk_wf {a : Int} (h : 0 ≤ a ∧ a ≤ 31) : (Lit.int .i64 a).wf = true := wfI (by omega)
theorem zeroI (w : World) : (zeroValue 3).run Try.prog w = .ok (.int .i64 0) w := by kernel_rfl
set_option maxRecDepth 100000 in
set_option maxHeartbeats 4000000 in
theorem run_any (x : Actn) (v : List Int) (w : World) (hv : v.length = 32) (hvi : valsIn v) (hx : x.ok = true) :
    Calls Try.prog 83 #[.agg #[.int .i64 x.kind, .int .i64 x.src, .int .i64 x.dst, .int .i64 x.amt], .agg (vA v)] w fun e w' => ∃ vr vw, e = .returned (.agg #[.bool (runV v x).d, vr, vw]) ∧ Up w w' ∧ Own Ent.enc 31 2 w.heap.size w' vr (runV v x).r ∧ Own Ent.enc 31 2 w.heap.size w' vw (runV v x).w ∧ Apart vr vw := by
  have kr := fun w => reads_any x w
  have kw := fun w => writes_any x w
  have kq := fun w => result_any x v w hv hvi hx
  have hrl : (x.rds (v.getD x.src.toNat 0) (v.getD x.dst.toNat 0)).length ≤ 2 := by rw [rds_len]; exact Actn.rk_le x
  have hrv := rds_at hx hv
  rw [← rds_keys x (v.getD x.src.toNat 0) (v.getD x.dst.toNat 0)] at kr
  have hwl : (x.wrs (v.getD x.src.toNat 0) (v.getD x.dst.toNat 0)).length ≤ 2 := by
    have := congrArg List.length (wrs_keys hx (v.getD x.src.toNat 0) (v.getD x.dst.toNat 0)); rw [List.length_map] at this; rw [this]; exact Actn.wk_le x
  have hwi := Actn.wk_in hx
  rw [← wrs_keys hx (v.getD x.src.toNat 0) (v.getD x.dst.toNat 0)] at kw hwi
  have hw0 : (runV v x).w = if (runV v x).d = true then x.wrs (v.getD x.src.toNat 0) (v.getD x.dst.toNat 0) else [] := rfl
  have hr0 : (runV v x).r = x.rds (v.getD x.src.toNat 0) (v.getD x.dst.toNat 0) := rfl
  rw [hw0, hr0]
  clear hw0 hr0
  generalize x.rds (v.getD x.src.toNat 0) (v.getD x.dst.toNat 0) = rL at *
  generalize x.wrs (v.getD x.src.toNat 0) (v.getD x.dst.toNat 0) = wL at *
  generalize (runV v x).d = bd at *
  have Hrv := Lib.hid hrv; have Hwi := Lib.hid hwi; have Hv := Lib.hid hv
  clear hv hvi hx hrv hwi
  go_enter Try.func83, Try.ntmps83
  go_wp2_with fail
  refine (kr _).mono ?_; rintro e w' ⟨vk, rfl, ⟨z1, rfl⟩, ok⟩
  clear kr
  obtain ⟨pk, ck, rfl, hkl, hkc⟩ := (ok.sl encI_length).open
  have Hg := Lib.hid (show ∀ g o, pk = some ⟨g, o, none⟩ → w.heap.size + 1 + 1 + 1 < g from fun g o e => by subst e; have := (World.ownsRow.lt ok g rfl).1; simp at this; omega)
  rw [List.length_map] at hkl ⊢
  have Hk := Lib.hid hkc; clear hkc ok
  go_wp2_with fail
  have hE2 : Ext w z1.val := (by repeat (first | (with_reducible exact Ext.refl _) | (with_reducible refine Ext.up ?_ _) | (with_reducible refine Ext.alloc ?_ _) | (with_reducible refine Ext.drew ?_) | (with_reducible refine Ext.setRow ?_ (by first | exact LeS.le | exact LeS.add _ | (simp; done) | (simp; omega)) _) | (with_reducible refine Ext.setCell ?_ (by first | exact LeS.le | exact LeS.add _ | (simp; done) | (simp; omega)) _)))
  have hsz : w.heap.size + 1 + 1 + 1 < z1.val.heap.size := by have := z1.ext.size; simp at this; omega
  have d0 : z1.val.cell? ⟨w.heap.size, 0, none⟩ = some (.int .i64 x.kind) := by go_simp
  have d1 : z1.val.cell? ⟨w.heap.size, 1, none⟩ = some (.int .i64 x.src) := by go_simp
  have d2 : z1.val.cell? ⟨w.heap.size, 2, none⟩ = some (.int .i64 x.dst) := by go_simp
  have d3 : z1.val.cell? ⟨w.heap.size, 3, none⟩ = some (.int .i64 x.amt) := by go_simp
  have r3 : Row 99 z1.val (w.heap.size + 1) v := (Extd.row z1 _).trans (row4 _ _ _ _ _).2.2
  have r6 : z1.val.heap[w.heap.size + 1 + 1]? = some (.cells #[.bool false, .slice none 0 0, .slice none 0 0] 40 (0, 0)) := (Extd.row z1 _).trans (row4 _ _ _ _ _).2.1
  have r7 : z1.val.heap[w.heap.size + 1 + 1 + 1]? = some (.cells #[.bool false, .slice none 0 0, .slice none 0 0] 40 (0, 0)) := (Extd.row z1 _).trans (row4 _ _ _ _ _).1
  generalize z1.val = W2 at *
  have hL3 : LtS w.heap.size W2 := ⟨by omega⟩
  have hL5 : LtS (w.heap.size + 1) W2 := ⟨by omega⟩
  have hL6 : LtS (w.heap.size + 1 + 1) W2 := ⟨by omega⟩
  have hL7 : LtS (w.heap.size + 1 + 1 + 1) W2 := ⟨by omega⟩
  have hN3 : NeS w.heap.size (w.heap.size + 1 + 1 + 1) := ⟨by omega⟩
  have hN5 : NeS (w.heap.size + 1) (w.heap.size + 1 + 1 + 1) := ⟨by omega⟩
  have hN6 : NeS (w.heap.size + 1 + 1) (w.heap.size + 1 + 1 + 1) := ⟨by omega⟩
  go_loopw [7, 15] (fun _ s9 wr => ∃ (k : Nat) (vr : Value), s9 = .int .i64 k ∧ k ≤ rL.length ∧ (∃ z : ExtR (w.heap.size + 1 + 1 + 1) W2, wr = z.val) ∧ wr.heap[w.heap.size + 1 + 1 + 1]? = some (.cells #[.bool false, vr, .slice none 0 0] 40 (0, 0)) ∧ Own Ent.enc 31 2 W2.heap.size wr vr (rL.take k)) (fun _ s9 _ => rL.length - (intOf s9).toNat)
  case atStart => exact ⟨0, _, rfl, Nat.zero_le _, ⟨⟨W2, grownBy_refl _ _⟩, rfl⟩, r7, Own.nil _ _ _ _ _⟩
  case round =>
    obtain ⟨k, vr, rfl, hk, ⟨z, rfl⟩, hr7, hown⟩ := hrel
    have hlk : (rL.take k).length = k := by rw [List.length_take]; omega
    obtain ⟨pr, cr, hvr, _, _⟩ := (hown.sl Ent.enc_length).openc
    rw [hlk] at hvr
    subst hvr
    have Hlk := Lib.hid hlk; clear hlk
    have Hown := Lib.hid hown; have H7 := Lib.hid hr7
    have hLz7 : LtS (w.heap.size + 1 + 1 + 1) z.val := inferInstance
    have c70 : z.val.cell? ⟨w.heap.size + 1 + 1 + 1, 0, none⟩ = some (.bool false) := cell_of_row _ _ 0 _ _ _ hr7
    have c71 : z.val.cell? ⟨w.heap.size + 1 + 1 + 1, 1, none⟩ = some (.slice pr k cr) := cell_of_row _ _ 1 _ _ _ hr7
    have c72 : z.val.cell? ⟨w.heap.size + 1 + 1 + 1, 2, none⟩ = some (.slice none 0 0) := cell_of_row _ _ 2 _ _ _ hr7
    have f70 : z.val.frozen? ⟨w.heap.size + 1 + 1 + 1, 0, none⟩ = false := frozen_of_row _ _ 0 _ _ hr7
    have f71 : z.val.frozen? ⟨w.heap.size + 1 + 1 + 1, 1, none⟩ = false := frozen_of_row _ _ 1 _ _ hr7
    have f72 : z.val.frozen? ⟨w.heap.size + 1 + 1 + 1, 2, none⟩ = false := frozen_of_row _ _ 2 _ _ hr7
    have hEz : Ext w z.val := hE2.upR (by omega) z
    clear hown hr7
    by_cases hlt : k < rL.length
    · obtain ⟨y, hyk⟩ := getElem?_some_of_lt hlt
      obtain ⟨gk, offk, rfl, hLk, hcc⟩ := Hk.out k y.k (by rw [List.getElem?_map, hyk]; rfl)
      have hgn := Hg.out gk offk rfl
      have hNk : NeS gk (w.heap.size + 1 + 1 + 1) := ⟨by omega⟩
      have ck0 : W2.cell? ⟨gk, offk + k, none⟩ = some (.int .i64 y.k) := by have := hcc 0 _ rfl; simpa using this
      have ck : z.val.cell? ⟨gk, offk + k, none⟩ = some (.int .i64 y.k) := (z.cell _ _).trans ck0
      obtain ⟨y0, y1, hyv⟩ := Hrv.out y (List.mem_of_getElem? hyk)
      have y2 : y.k < 32 := by omega
      have e0 : W2.cell? ⟨w.heap.size + 1, y.k.toNat, none⟩ = some (.int .i64 y.v) := r3.cell hyv
      have e1 : z.val.cell? ⟨w.heap.size + 1, y.k.toNat, none⟩ = some (.int .i64 y.v) := (z.cell _ _).trans e0
      have Hyk := Lib.hid (take_snocE hyk)
      have hl2 : (rL.take k).length ≤ 2 := by rw [List.length_take]; omega
      have R3 := Lib.hid r3
      clear hcc hyk hyv r3
      go_wp2_with fail
      go_region_law (refine step_pushG fEnt (by rfl) (.tmp 20) (.tmp 26) (by rfl) Ent.enc Ent.enc_length w (lo := W2.heap.size) [⟨y.k, y.v⟩] (rL.take k) (by rfl) (by rfl) (heap_alloc_new _ _) (Hown.out.up (by repeat (first | exact Ext.refl _ | refine Ext.up ?_ _ | refine Ext.alloc ?_ _ | refine Ext.drew ?_ | refine Ext.setRow ?_ (by first | (dsimp only; omega) | exact LeS.le | exact LeS.add _ | (simp; done) | (simp; omega)) _ | refine Ext.setCell ?_ (by first | (dsimp only; omega) | exact LeS.le | exact LeS.add _ | (simp; done) | (simp; omega)) _))) (Ext.drew (Ext.alloc hEz _)) (by omega) LeS.le (by rfl) (by decide) (by rfl) (oneEs' _) (by rw [Hlk.out]; simp; omega) (by rw [Hlk.out]; simp; omega) ?_; intro v7 z7 o7 g7 b7; obtain ⟨R7, G7⟩ := keepRow z.grown Hown.out (by omega) (Nat.le_refl _) H7.out g7; obtain ⟨p7, c7, hv7, _, _⟩ := (o7.sl Ent.enc_length).openc; rw [List.length_append, Hlk.out] at hv7; rw [show k + [(⟨y.k, y.v⟩ : Ent)].length = k + 1 from rfl] at hv7; subst hv7; have e71 := cell_of_row _ _ 1 _ _ _ R7; have e7f := frozen_of_row _ _ 1 _ _ R7; have O7 := Lib.hid o7; have HR7 := Lib.hid R7; have HG7 := Lib.hid G7; clear o7 R7 G7 g7 b7)
      all_goals
        go_wp2_with fail
        go_roundw
        case rel =>
          refine ⟨k + 1, _, by go_num, by omega, ExtR.of (grownBy_trans HG7.out (grownBy_set _ _ _)), (heap_setCell_same _ _ 1 _ _ _ HR7.out).trans rfl, ?_⟩
          refine Own.setLo ?_ (by omega)
          rw [Hyk.out]
          exact O7.out
        case measure => simp [intOf]; omega
    · obtain rfl : k = rL.length := by omega
      rw [List.take_length] at Hown
      have q3 : Row 99 z.val (w.heap.size + 1) v := (z.block hL5.lt hN5.ne).trans r3
      have q6 : z.val.heap[w.heap.size + 1 + 1]? = some (.cells #[.bool false, .slice none 0 0, .slice none 0 0] 40 (0, 0)) := (z.block hL6.lt hN6.ne).trans r6
      have c30 : z.val.cell? ⟨w.heap.size, 0, none⟩ = some (.int .i64 x.kind) := (z.cell _ _).trans d0
      have c31 : z.val.cell? ⟨w.heap.size, 1, none⟩ = some (.int .i64 x.src) := (z.cell _ _).trans d1
      have c32 : z.val.cell? ⟨w.heap.size, 2, none⟩ = some (.int .i64 x.dst) := (z.cell _ _).trans d2
      have c33 : z.val.cell? ⟨w.heap.size, 3, none⟩ = some (.int .i64 x.amt) := (z.cell _ _).trans d3
      have hsz2 : W2.heap.size ≤ z.val.heap.size := z.grown.size
      have hLz3 : LtS w.heap.size z.val := inferInstance
      have hLz5 : LtS (w.heap.size + 1) z.val := inferInstance
      have hLz6 : LtS (w.heap.size + 1 + 1) z.val := inferInstance
      clear r3 r6 r7 d0 d1 d2 d3 Hk Hg Hlk Hrv
      generalize z.val = W9 at *
      clear z
      obtain ⟨z9, rfl⟩ := Up.of hEz
      have c60 : z9.val.cell? ⟨w.heap.size + 1 + 1, 0, none⟩ = some (.bool false) := cell_of_row _ _ 0 _ _ _ q6
      have c61 : z9.val.cell? ⟨w.heap.size + 1 + 1, 1, none⟩ = some (.slice none 0 0) := cell_of_row _ _ 1 _ _ _ q6
      have c62 : z9.val.cell? ⟨w.heap.size + 1 + 1, 2, none⟩ = some (.slice none 0 0) := cell_of_row _ _ 2 _ _ _ q6
      have f60 := frozen_of_row _ _ 0 _ _ q6
      have f61 := frozen_of_row _ _ 1 _ _ q6
      have f62 := frozen_of_row _ _ 2 _ _ q6
      have Q3 := Lib.hid q3; have Q6 := Lib.hid q6
      clear q3 q6
      rcases bd with _ | _
      · go_wp2_with (first | (refine wpList_load_row rfl _ _ rfl _ rfl _ _ _ _ Q3.out.eq Try.underlying99 rfl (by rw [vA_size, Hv.out]; exact Try.sVals) ?_) | (go_at_call 142; refine (kq _).mono ?_; rintro e w' ⟨b, D, rfl, ⟨z10, rfl⟩, om, ha⟩))
        refine bodyPost_ret (v := .agg #[.bool false, .slice pr rL.length cr, .slice none 0 0]) (by simp [results, Try.results83, go_sem, c60, c61, c62]) rfl ?_
        refine ⟨_, _, rfl, (.of (by repeat (first | (with_reducible exact Ext.refl _) | (with_reducible refine Ext.up ?_ _) | (with_reducible refine Ext.alloc ?_ _) | (with_reducible refine Ext.drew ?_) | (with_reducible refine Ext.setRow ?_ (by first | exact LeS.le | exact LeS.add _ | (simp; done) | (simp; omega)) _) | (with_reducible refine Ext.setCell ?_ (by first | exact LeS.le | exact LeS.add _ | (simp; done) | (simp; omega)) _)))), (by refine Own.lo (lo := W2.heap.size) ?_ (by omega); (repeat (first | (with_reducible exact Hown.out) | (with_reducible refine Own.setLo ?_ (by omega)) | (with_reducible refine Own.alloc ?_) | (with_reducible refine Own.up ?_ (Extd.ext _)) | (exact Hown.out)))), Own.nil _ _ _ _ _, Apart.nil' _ _ _⟩
      · go_wp2_with (first | (refine wpList_load_row rfl _ _ rfl _ rfl _ _ _ _ Q3.out.eq Try.underlying99 rfl (by rw [vA_size, Hv.out]; exact Try.sVals) ?_) | (go_at_call 142; refine (kq _).mono ?_; rintro e w' ⟨b, D, rfl, ⟨z10, rfl⟩, om, ha⟩))
        refine (kw _).mono ?_; rintro e w' ⟨vk, rfl, ⟨z11, rfl⟩, ok⟩
        have s7 : z10.val.heap[w.heap.size + 1 + 1 + 1]? = _ := (Extd.row z10 _).trans H7.out
        have hbn := om.ne_row s7
        have om2 := (om.keep (grownBy_set _ ⟨w.heap.size + 1 + 1 + 1, 0, none⟩ (.bool true)) hbn).up z11.ext
        have s8 : z11.val.heap[w.heap.size + 1 + 1 + 1]? = some (.cells #[.bool true, .slice pr rL.length cr, .slice none 0 0] 40 (0, 0)) := (Extd.row z11 _).trans ((heap_setCell_same _ _ 0 _ _ _ s7).trans rfl)
        have s6 : z11.val.heap[w.heap.size + 1 + 1]? = some (.cells #[.bool false, .slice none 0 0, .slice none 0 0] 40 (0, 0)) := (Extd.row z11 _).trans ((heap_setCell_other _ _ _ _ hN6.ne).trans ((Extd.row z10 _).trans Q6.out))
        have hown2 : Own Ent.enc 31 2 W2.heap.size z11.val (.slice pr rL.length cr) rL := (Own.setLo (Hown.out.up z10.ext) (by omega)).up z11.ext
        have hE11 : Ext w z11.val := (by repeat (first | (with_reducible exact Ext.refl _) | (with_reducible refine Ext.up ?_ _) | (with_reducible refine Ext.alloc ?_ _) | (with_reducible refine Ext.drew ?_) | (with_reducible refine Ext.setRow ?_ (by first | exact LeS.le | exact LeS.add _ | (simp; done) | (simp; omega)) _) | (with_reducible refine Ext.setCell ?_ (by first | exact LeS.le | exact LeS.add _ | (simp; done) | (simp; omega)) _)))
        have hz9 : z9.val.heap.size ≤ z11.val.heap.size := by have h1 := z10.ext.size; have h2 := z11.ext.size; simp [setCell_sz] at h2; omega
        obtain ⟨pk, ck, rfl, hkl2, hkc⟩ := (ok.sl encI_length).open
        have Hg := Lib.hid (show ∀ g o, pk = some ⟨g, o, none⟩ → w.heap.size + 1 + 1 + 1 < g from fun g o e => by subst e; have := (World.ownsRow.lt ok g rfl).1; have h1 := z10.ext.size; simp [setCell_sz] at this; omega)
        rw [List.length_map] at hkl2 ⊢
        have Hk := Lib.hid hkc; clear hkc ok
        have hL3' : LtS w.heap.size z11.val := inferInstance
        have hL6' : LtS (w.heap.size + 1 + 1) z11.val := inferInstance
        have hL7' : LtS (w.heap.size + 1 + 1 + 1) z11.val := inferInstance
        have Hom := Lib.hid om2; have Hha := Lib.hid ha; have S6 := Lib.hid s6; have Hown2 := Lib.hid hown2
        have A0 := Lib.hid Hown.out
        clear om om2 ha s6 s7 hown2 c60 c61 c62 f60 f61 f62 c70 c71 c72 f70 f71 f72 Q6 Q3 H7 Hown kq kw
        go_wp2_with fail
        generalize z11.val = W11 at *
        go_loopw [11, 42] (fun _ s9 wr => ∃ (k : Nat) (vw : Value), s9 = .int .i64 k ∧ k ≤ wL.length ∧ (∃ z : ExtR (w.heap.size + 1 + 1 + 1) W11, wr = z.val) ∧ wr.heap[w.heap.size + 1 + 1 + 1]? = some (.cells #[.bool true, .slice pr rL.length cr, vw] 40 (0, 0)) ∧ Own Ent.enc 31 2 W11.heap.size wr vw (wL.take k)) (fun _ s9 _ => wL.length - (intOf s9).toNat)
        case atStart => exact ⟨0, _, rfl, Nat.zero_le _, ⟨⟨W11, grownBy_refl _ _⟩, rfl⟩, s8, Own.nil _ _ _ _ _⟩
        case round =>
          obtain ⟨k, vw, rfl, hk2, ⟨z, rfl⟩, hr7, hown⟩ := hrel
          have hlk : (wL.take k).length = k := by rw [List.length_take]; omega
          obtain ⟨pw, cw, hvw, _, _⟩ := (hown.sl Ent.enc_length).openc
          rw [hlk] at hvw
          subst hvw
          have Hlk := Lib.hid hlk; clear hlk
          have Hown := Lib.hid hown; have H7 := Lib.hid hr7
          have hLz7 : LtS (w.heap.size + 1 + 1 + 1) z.val := inferInstance
          have c70 : z.val.cell? ⟨w.heap.size + 1 + 1 + 1, 0, none⟩ = some (.bool true) := cell_of_row _ _ 0 _ _ _ hr7
          have c71 : z.val.cell? ⟨w.heap.size + 1 + 1 + 1, 1, none⟩ = some (.slice pr rL.length cr) := cell_of_row _ _ 1 _ _ _ hr7
          have c72 : z.val.cell? ⟨w.heap.size + 1 + 1 + 1, 2, none⟩ = some (.slice pw k cw) := cell_of_row _ _ 2 _ _ _ hr7
          have f70 : z.val.frozen? ⟨w.heap.size + 1 + 1 + 1, 0, none⟩ = false := frozen_of_row _ _ 0 _ _ hr7
          have f71 : z.val.frozen? ⟨w.heap.size + 1 + 1 + 1, 1, none⟩ = false := frozen_of_row _ _ 1 _ _ hr7
          have f72 : z.val.frozen? ⟨w.heap.size + 1 + 1 + 1, 2, none⟩ = false := frozen_of_row _ _ 2 _ _ hr7
          have hEw : Ext w z.val := hE11.upR (by omega) z
          have hzz : W11.heap.size ≤ z.val.heap.size := z.grown.size
          clear hown hr7
          by_cases hlt : k < wL.length
          · obtain ⟨y, hyk⟩ := getElem?_some_of_lt hlt
            obtain ⟨gk, offk, rfl, hLk, hcc⟩ := Hk.out k y.k (by rw [List.getElem?_map, hyk]; rfl)
            have hgn := Hg.out gk offk rfl
            have hNk : NeS gk (w.heap.size + 1 + 1 + 1) := ⟨by omega⟩
            have ck0 : W11.cell? ⟨gk, offk + k, none⟩ = some (.int .i64 y.k) := by have := hcc 0 _ rfl; simpa using this
            have ck : z.val.cell? ⟨gk, offk + k, none⟩ = some (.int .i64 y.k) := (z.cell _ _).trans ck0
            have hyi := Hwi.out y.k (List.mem_map.2 ⟨y, List.mem_of_getElem? hyk, rfl⟩)
            have hya := Lib.hid (Hha.out y (List.mem_of_getElem? hyk))
            have HomZ := Lib.hid (Hom.out.keep z.grown hbn)
            have Hyk := Lib.hid (take_snocE hyk)
            have hl2 : (wL.take k).length ≤ 2 := by rw [List.length_take]; omega
            have hwf := Lib.hid (wk_wf hyi)
            clear hcc hyk hyi
            go_wp2_with (first | (at_lookup; refine wpList_lookup_own_int _ rfl _ _ 149 rfl 3 3 .i64 (int_keyed Try.underlying3) Try.underlying149 Try.underlying3 (zeroI _) b 2 D rfl HomZ.out.1 _ _ rfl (keyOf_int_mk Try.underlying3 hwf.out) ?_; intro c hat hwc; obtain rfl := lit_inj hat hya.out; clear hat hwc) | (at_builtin; refine wpList_pushG fEnt rfl (.tmp 47) (.tmp 53) rfl Ent.enc Ent.enc_length w (lo := W11.heap.size) [⟨y.k, y.v⟩] (wL.take k) rfl Hown.out hEw hE11.size hzz rfl rfl (by go_simp) rfl (oneEs' _) (by rw [Hlk.out]; simp; omega) (by rw [Hlk.out]; simp; omega) ?_; intro v7 z7 o7 g7 b7; obtain ⟨R7, G7⟩ := keepRow' z.grown Hown.out (by omega) (Nat.le_refl _) H7.out g7; obtain ⟨p7, c7, hv7, _, _⟩ := (o7.sl Ent.enc_length).openc; rw [List.length_append, Hlk.out] at hv7; rw [show k + [(⟨y.k, y.v⟩ : Ent)].length = k + 1 from rfl] at hv7; subst hv7; have e71 := cell_of_row _ _ 2 _ _ _ R7; have e7f := frozen_of_row _ _ 2 _ _ R7; have O7 := Lib.hid o7; have HR7 := Lib.hid R7; have HG7 := Lib.hid G7; clear o7 R7 G7 g7 b7))
            go_roundw
            case rel =>
              refine ⟨k + 1, _, by go_num, by omega, ExtR.of (grownBy_trans HG7.out (grownBy_set _ _ _)), (heap_setCell_same _ _ 2 _ _ _ HR7.out).trans rfl, ?_⟩
              refine Own.setLo ?_ (by omega)
              rw [Hyk.out]
              exact O7.out
            case measure => simp [intOf]; omega
          · obtain rfl : k = wL.length := by omega
            rw [List.take_length] at Hown
            have q6 := (z.block hL6'.lt hN6.ne).trans S6.out
            have c60 : z.val.cell? ⟨w.heap.size + 1 + 1, 0, none⟩ = some (.bool false) := cell_of_row _ _ 0 _ _ _ q6
            have c61 : z.val.cell? ⟨w.heap.size + 1 + 1, 1, none⟩ = some (.slice none 0 0) := cell_of_row _ _ 1 _ _ _ q6
            have c62 : z.val.cell? ⟨w.heap.size + 1 + 1, 2, none⟩ = some (.slice none 0 0) := cell_of_row _ _ 2 _ _ _ q6
            have f60 := frozen_of_row _ _ 0 _ _ q6
            have f61 := frozen_of_row _ _ 1 _ _ q6
            have f62 := frozen_of_row _ _ 2 _ _ q6
            have HA := Lib.hid (Own.kept Hown2.out z.grown (Hown2.out.ne_rb (by omega)))
            have AP := Lib.hid (Apart.of_lt A0.out Hown.out (by omega))
            clear q6 Hk Hg
            generalize z.val = W12 at *
            clear z
            obtain ⟨z12, rfl⟩ := Up.of hEw
            go_wp2_with fail
            refine bodyPost_ret (v := .agg #[.bool true, .slice pr rL.length cr, .slice pw wL.length cw]) (by simp [results, Try.results83, go_sem, c60, c61, c62]) rfl ?_
            refine ⟨_, _, rfl, (.of (by repeat (first | (with_reducible exact Ext.refl _) | (with_reducible refine Ext.up ?_ _) | (with_reducible refine Ext.alloc ?_ _) | (with_reducible refine Ext.drew ?_) | (with_reducible refine Ext.setRow ?_ (by first | exact LeS.le | exact LeS.add _ | (simp; done) | (simp; omega)) _) | (with_reducible refine Ext.setCell ?_ (by first | exact LeS.le | exact LeS.add _ | (simp; done) | (simp; omega)) _)))), (by refine Own.lo (lo := W2.heap.size) ?_ (by omega); (repeat (with_reducible refine Own.setLo ?_ (by omega))); exact HA.out), (by refine Own.lo (lo := W11.heap.size) ?_ (by omega); (repeat (with_reducible refine Own.setLo ?_ (by omega))); exact Hown.out), AP.out⟩
end Go.Proofs.Ytkboefmkfpnpjaa
namespace Go.Proofs.Ytkboefmkfpnpjaa
open Go Go.RowKit Go.Proofs

theorem runE_rlen (x : Actn) (f t : Int) : (runE x f t).r.length ≤ 2 := by
  show (x.rds f t).length ≤ 2
  rw [rds_len]; exact Actn.rk_le x
theorem runAll_len (v : List Int) (l : List Actn) : (runAll v l).2.length = l.length := by
  have key : ∀ (l : List Actn) (p : List Int × List Eff), (l.foldl runStep p).2.length = p.2.length + l.length := by
    intro l
    induction l with
    | nil => intro p; simp
    | cons x l ih => intro p; rw [List.foldl_cons, ih]; simp [runStep]; omega
  simpa [runAll] using key l (v, [])
theorem runE_wlen (x : Actn) (f t : Int) : (runE x f t).w.length ≤ 2 := by
  unfold runE
  dsimp only
  split
  · unfold Actn.wrs sort2
    repeat' split
    all_goals simp
  · simp
theorem runAll_small (v : List Int) (l : List Actn) : ∀ x ∈ (runAll v l).2, x.r.length ≤ 1000 ∧ x.w.length ≤ 1000 := by
  have key : ∀ (l : List Actn) (p : List Int × List Eff), (∀ x ∈ p.2, x.r.length ≤ 1000 ∧ x.w.length ≤ 1000) → ∀ x ∈ (l.foldl runStep p).2, x.r.length ≤ 1000 ∧ x.w.length ≤ 1000 := by
    intro l
    induction l with
    | nil => intro p h; exact h
    | cons y l ih =>
      intro p h
      refine ih _ fun x hx => ?_
      rcases List.mem_append.1 (show x ∈ p.2 ++ [runV p.1 y] from hx) with hx | hx
      · exact h x hx
      · rw [List.mem_singleton] at hx; subst hx
        have h1 := runE_rlen y (p.1.getD y.src.toNat 0) (p.1.getD y.dst.toNat 0)
        have h2 := runE_wlen y (p.1.getD y.src.toNat 0) (p.1.getD y.dst.toNat 0)
        exact ⟨Nat.le_trans h1 (by omega), Nat.le_trans h2 (by omega)⟩
  exact key l (v, []) (by simp)
set_option maxRecDepth 100000 in
set_option maxHeartbeats 2000000 in
theorem sRunSerial_yes (s : List Ent) (l : List Actn) (v vl : Value) (w : World) (h : SL (RF Ent.enc) 2 w v s) (hl : SL (RF Actn.enc) 4 w vl l) (hok : entsOk 1 s = true) (hlk : actsOk l = true) :
    Calls Try.prog 35 #[v, vl] w fun e w' => ∃ v1 v2 ts, e = .returned (.tuple #[v1, v2]) ∧ Up w w' ∧ Own Ent.enc 31 2 w.heap.size w' v1 (storeOf (runAll (valsOf s) l).1) ∧
      OE 40 31 w.heap.size w' v2 ts ∧ ts.map TE.core = (runAll (valsOf s) l).2 ∧ Apart v1 v2 := by
  have H := Lib.hid h; have HL := Lib.hid hl
  obtain ⟨p, c, rfl, _, _⟩ := h.openc
  obtain ⟨p3, c3, rfl, hll, hcl⟩ := hl.open
  have hls := entsOk_len hok
  have kv := fun w (h : SL (RF Ent.enc) 2 w (.slice p s.length c) s) => sStoreValid_any s _ w h
  simp only [hok] at kv
  have kw := fun w (h : SL (RF Actn.enc) 4 w (.slice p3 l.length c3) l) => sActionsValid_any l _ w h
  simp only [hlk] at kw
  have hvi : valsIn (valsOf s) := valsOf_in (entsOk_least (by decide) hok)
  have hlen := actsOk_len hlk
  have Hok := Lib.hid hok; have Hlk := Lib.hid hlk; have Hvi := Lib.hid hvi
  clear h hl hok hlk hvi
  go_enter Try.func35, Try.ntmps35
  go_wp2_with (first | (go_at_call 26; refine (kv _ (H.out.up (by repeat (first | (with_reducible exact Ext.refl _) | (with_reducible refine Ext.up ?_ _) | (with_reducible refine Ext.alloc ?_ _) | (with_reducible refine Ext.drew ?_) | (with_reducible refine Ext.setRow ?_ (by first | exact LeS.le | exact LeS.add _ | (simp; done) | (simp; omega)) _) | (with_reducible refine Ext.setCell ?_ (by first | exact LeS.le | exact LeS.add _ | (simp; done) | (simp; omega)) _))))).mono ?_; rintro e w' ⟨rfl, z1, rfl⟩) | (go_at_call 36; refine (kw _ (HL.out.up (by repeat (first | (with_reducible exact Ext.refl _) | (with_reducible refine Ext.up ?_ _) | (with_reducible refine Ext.alloc ?_ _) | (with_reducible refine Ext.drew ?_) | (with_reducible refine Ext.setRow ?_ (by first | exact LeS.le | exact LeS.add _ | (simp; done) | (simp; omega)) _) | (with_reducible refine Ext.setCell ?_ (by first | exact LeS.le | exact LeS.add _ | (simp; done) | (simp; omega)) _))))).mono ?_; rintro e w' ⟨rfl, z2, rfl⟩) | (at_builtin; refine wpList_catA fEnt rfl (.tmp 21) (.tmp 22) rfl Ent.enc Ent.enc_length w (lo := w.heap.size + 1) s [] rfl (Own.lit rfl (by have h1 := z1.ext.size; have h2 := z2.ext.size; simp at h1 h2 ⊢; omega) rfl rfl Ent.enc_length (by simp)) (by repeat (first | (with_reducible exact Ext.refl _) | (with_reducible refine Ext.up ?_ _) | (with_reducible refine Ext.alloc ?_ _) | (with_reducible refine Ext.drew ?_) | (with_reducible refine Ext.setRow ?_ (by first | exact LeS.le | exact LeS.add _ | (simp; done) | (simp; omega)) _) | (with_reducible refine Ext.setCell ?_ (by first | exact LeS.le | exact LeS.add _ | (simp; done) | (simp; omega)) _))) (Nat.le_succ _) (by have h1 := z1.ext.size; have h2 := z2.ext.size; simp at h1 h2 ⊢; omega) rfl (H.out.up (by repeat (first | (with_reducible exact Ext.refl _) | (with_reducible refine Ext.up ?_ _) | (with_reducible refine Ext.alloc ?_ _) | (with_reducible refine Ext.drew ?_) | (with_reducible refine Ext.setRow ?_ (by first | exact LeS.le | exact LeS.add _ | (simp; done) | (simp; omega)) _) | (with_reducible refine Ext.setCell ?_ (by first | exact LeS.le | exact LeS.add _ | (simp; done) | (simp; omega)) _)))) (oneEs' _) (by simp; omega) (by simp; omega) ?_; intro v1 z3 o1 g1 b1; clear b1))
  have o0 : Own TE.enc 40 3 w.heap.size (w.alloc (.cells #[] 40)) (.slice (some ⟨w.heap.size, 0, none⟩) 0 0) [] := Own.lit rfl (Nat.le_refl _) rfl rfl TE.enc_length (by simp)
  have a0 : Apart v1 (.slice (some ⟨w.heap.size, 0, none⟩) 0 0) := (Apart.of_lt o0 o1 (by simp)).symm
  have O1 := Lib.hid o1
  have hE0 : Ext (w.alloc (.cells #[] 40)) z3.val := by
    refine Ext.grown (a := w.alloc (.cells #[] 40)) (b := z2.val.alloc (.cells #[] 31)) (by repeat (first | (with_reducible exact Ext.refl _) | (with_reducible refine Ext.up ?_ _) | (with_reducible refine Ext.alloc ?_ _) | (with_reducible refine Ext.drew ?_) | (with_reducible refine Ext.setRow ?_ (by first | exact LeS.le | exact LeS.add _ | (simp; done) | (simp; omega)) _) | (with_reducible refine Ext.setCell ?_ (by first | exact LeS.le | exact LeS.add _ | (simp; done) | (simp; omega)) _))) g1 (fun k hk => ?_)
    change (Value.slice (some ⟨z2.val.heap.size, 0, none⟩) 0 0).ownBlock = some k at hk
    have h1 := z1.ext.size; have h2 := z2.ext.size
    simp [Value.ownBlock] at hk h1 h2 ⊢; omega
  have O0 := Lib.hid (o0.up hE0)
  clear o1 o0 g1
  go_loopw [6, 7, 8] (fun s6 s7 s8 wr => ∃ (k : Nat) (ts : List TE), s8 = .int .i64 k ∧ k ≤ l.length ∧ Up w wr ∧ Own Ent.enc 31 2 w.heap.size wr s7 (storeOf (runAll (valsOf s) (l.take k)).1) ∧ OE 40 31 w.heap.size wr s6 ts ∧ ts.map TE.core = (runAll (valsOf s) (l.take k)).2 ∧ Apart s7 s6) (fun _ _ s8 _ => l.length - (intOf s8).toNat)
  case atStart => exact ⟨0, [], rfl, Nat.zero_le _, ⟨z3, rfl⟩, by rw [show (runAll (valsOf s) (l.take 0)).1 = valsOf s from rfl, storeOf_valsOf Hok.out]; exact O1.out.lo (Nat.le_succ _), ⟨O0.out, by simp⟩, rfl, a0⟩
  case round =>
    obtain ⟨k, ts, rfl, hk, ⟨z, rfl⟩, hown, hoe, hts, hap⟩ := hrel
    have hlt10 : (runAll (valsOf s) (l.take k)).2.length ≤ 10 := by rw [runAll_len, List.length_take]; omega
    have htl : ts.length ≤ 10 := by rw [← List.length_map (f := TE.core), hts]; exact hlt10
    have Hown := Lib.hid hown; have Hoe := Lib.hid hoe; have Hts := Lib.hid hts; have Hap := Lib.hid hap
    clear hown hoe hts hap hlt10
    by_cases hlt : k < l.length
    · obtain ⟨x, hxk⟩ := getElem?_some_of_lt hlt
      obtain ⟨g, off, hp, hb, _⟩ := hcl k x hxk
      obtain ⟨c0, c1, c2, c3⟩ := acell hcl hp hxk
      subst hp
      have k0 : (0 : Int) ≤ (k : Int) := by omega
      have k1 : (k : Int) < l.length := by omega
      have hxo := actsOk_at Hlk.out hxk
      have hVi : valsIn (runAll (valsOf s) (l.take k)).1 := runAll_in Hvi.out fun y hy => by obtain ⟨i, hi⟩ := List.getElem?_of_mem (List.mem_of_mem_take hy); exact actsOk_at Hlk.out hi
      have Hsn := Lib.hid (runAll_snoc (valsOf s) hxk)
      generalize hR : runAll (valsOf s) (l.take k) = R at *
      have kr := fun v w h => sRunAction_yes (storeOf R.1) x v w h (storeOf_ok hVi) hxo
      simp only [runE_store hVi hxo] at kr
      have ha := fun vr vw v w hs hu hr => sApplyEffect_yes (storeOf R.1) (runV R.1 x).w (runV R.1 x).d v vr vw w hs hu hr (storeOf_ok hVi) (runV_ok hVi hxo)
      rw [putAll_store hVi (fun e he => by have := entsOk_mem (runV_ok hVi hxo) he; omega)] at ha
      clear hcl hxk hVi hxo hR
      generalize hE : runV R.1 x = E at *
      have HE := Lib.hid hE; clear hE
      go_wp2_with (first | ((go_at_call 76; refine (kr _ _ ((Hown.out.sl Ent.enc_length).up (by repeat (first | (with_reducible exact Ext.refl _) | (with_reducible refine Ext.up ?_ _) | (with_reducible refine Ext.alloc ?_ _) | (with_reducible refine Ext.drew ?_) | (with_reducible refine Ext.setRow ?_ (by first | exact LeS.le | exact LeS.add _ | (simp; done) | (simp; omega)) _) | (with_reducible refine Ext.setCell ?_ (by first | exact LeS.le | exact LeS.add _ | (simp; done) | (simp; omega)) _))))).mono ?_; rintro e w' ⟨vr, vw, rfl, ⟨z4, rfl⟩, q1, q2, ap⟩); obtain ⟨p1, cc1, rfl, _, _⟩ := (q1.sl Ent.enc_length).openc; obtain ⟨p2, cc2, rfl, _, _⟩ := (q2.sl Ent.enc_length).openc; have Q1 := Lib.hid q1; have Q2 := Lib.hid q2; clear q1 q2 ap) | (go_at_call 77; refine (ha _ _ _ _ ((Hown.out.sl Ent.enc_length).up (by repeat (first | (with_reducible exact Ext.refl _) | (with_reducible refine Ext.up ?_ _) | (with_reducible refine Ext.alloc ?_ _) | (with_reducible refine Ext.drew ?_) | (with_reducible refine Ext.setRow ?_ (by first | exact LeS.le | exact LeS.add _ | (simp; done) | (simp; omega)) _) | (with_reducible refine Ext.setCell ?_ (by first | exact LeS.le | exact LeS.add _ | (simp; done) | (simp; omega)) _)))) ((Q2.out.sl Ent.enc_length).up (by repeat (first | (with_reducible exact Ext.refl _) | (with_reducible refine Ext.up ?_ _) | (with_reducible refine Ext.alloc ?_ _) | (with_reducible refine Ext.drew ?_) | (with_reducible refine Ext.setRow ?_ (by first | exact LeS.le | exact LeS.add _ | (simp; done) | (simp; omega)) _) | (with_reducible refine Ext.setCell ?_ (by first | exact LeS.le | exact LeS.add _ | (simp; done) | (simp; omega)) _)))) ⟨_, _, _, rfl⟩).mono ?_; rintro e w' ⟨v8, rfl, ⟨z5, rfl⟩, o8⟩) | (at_builtin; refine wpList_pushG fEff rfl (.tmp 39) (.tmp 41) rfl TE.enc TE.enc_length w (lo := w.heap.size) [⟨E.d, .slice p1 E.r.length cc1, .slice p2 E.w.length cc2, E.r, E.w⟩] ts rfl (Hoe.out.1.up (by repeat (first | (with_reducible exact Ext.refl _) | (with_reducible refine Ext.up ?_ _) | (with_reducible refine Ext.alloc ?_ _) | (with_reducible refine Ext.drew ?_) | (with_reducible refine Ext.setRow ?_ (by first | exact LeS.le | exact LeS.add _ | (simp; done) | (simp; omega)) _) | (with_reducible refine Ext.setCell ?_ (by first | exact LeS.le | exact LeS.add _ | (simp; done) | (simp; omega)) _)))) (by repeat (first | (with_reducible exact Ext.refl _) | (with_reducible refine Ext.up ?_ _) | (with_reducible refine Ext.alloc ?_ _) | (with_reducible refine Ext.drew ?_) | (with_reducible refine Ext.setRow ?_ (by first | exact LeS.le | exact LeS.add _ | (simp; done) | (simp; omega)) _) | (with_reducible refine Ext.setCell ?_ (by first | exact LeS.le | exact LeS.add _ | (simp; done) | (simp; omega)) _))) (Nat.le_refl _) LeS.le rfl rfl (by go_simp) rfl (oneTE _ (by intro y hy; simp at hy; subst hy; exact ⟨⟨_, _, _, rfl⟩, ⟨_, _, _, rfl⟩⟩)) (by simp; omega) (by simp; omega) ?_; intro v7 z7 o7 g7 b7))
      have A8 := Lib.hid (Apart.of_lt Hoe.out.1 o8 (by have := z4.ext.size; simp [setCell_sz]; omega)).symm
      have A1 := Lib.hid (Apart.of_lt Hoe.out.1 Q1.out (by simp)).symm
      have A2 := Lib.hid (Apart.of_lt Hoe.out.1 Q2.out (by simp)).symm
      have hzw := z.ext.size
      have hz4 := z4.ext.size
      have K8 := Own.up o8 (w' := _) (show Ext _ _ from (Ext.refl _).alloc (.cells #[.bool E.d, .slice p1 E.r.length cc1, .slice p2 E.w.length cc2] 40))
      have F8 := Lib.hid (K8.keep g7 A8.out)
      have B8 := Lib.hid (Apart.grown K8 A8.out (Nat.le_refl _) b7)
      have OE7 := Lib.hid (OE.snoc (Hoe.out.up (by repeat (first | (with_reducible exact Ext.refl _) | (with_reducible refine Ext.up ?_ _) | (with_reducible refine Ext.alloc ?_ _) | (with_reducible refine Ext.drew ?_) | (with_reducible refine Ext.setRow ?_ (by first | exact LeS.le | exact LeS.add _ | (simp; done) | (simp; omega)) _) | (with_reducible refine Ext.setCell ?_ (by first | exact LeS.le | exact LeS.add _ | (simp; done) | (simp; omega)) _)))) g7 b7 o7 ((Q1.out.up (by repeat (first | (with_reducible exact Ext.refl _) | (with_reducible refine Ext.up ?_ _) | (with_reducible refine Ext.alloc ?_ _) | (with_reducible refine Ext.drew ?_) | (with_reducible refine Ext.setRow ?_ (by first | exact LeS.le | exact LeS.add _ | (simp; done) | (simp; omega)) _) | (with_reducible refine Ext.setCell ?_ (by first | exact LeS.le | exact LeS.add _ | (simp; done) | (simp; omega)) _)))).lo (by first | omega | (simp; omega))) A1.out ((Q2.out.up (by repeat (first | (with_reducible exact Ext.refl _) | (with_reducible refine Ext.up ?_ _) | (with_reducible refine Ext.alloc ?_ _) | (with_reducible refine Ext.drew ?_) | (with_reducible refine Ext.setRow ?_ (by first | exact LeS.le | exact LeS.add _ | (simp; done) | (simp; omega)) _) | (with_reducible refine Ext.setCell ?_ (by first | exact LeS.le | exact LeS.add _ | (simp; done) | (simp; omega)) _)))).lo (by first | omega | (simp; omega))) A2.out)
      clear o8 o7 g7 b7 K8
      go_wp2_with fail
      go_roundw
      case rel =>
        refine ⟨k + 1, _, by go_num, by omega, ⟨z7, rfl⟩, ?_, OE7.out, ?_, B8.out⟩
        · rw [Hsn.out]
          show Own Ent.enc 31 2 w.heap.size z7.val v8 (storeOf (vsets R.1 (runV R.1 x).w))
          rw [HE.out]
          exact F8.out.lo (by simp [setCell_sz]; omega)
        · rw [Hsn.out]
          show _ = R.2 ++ [runV R.1 x]
          rw [HE.out, List.map_append, Hts.out]; rfl
      case measure => simp [intOf]; omega
    · obtain rfl : k = l.length := by omega
      rw [List.take_length] at Hown Hts
      clear hcl
      go_wp2_with fail
      refine bodyPost_ret (v := .tuple #[u7, u6]) (by simp [results, Try.results35, go_sem]) rfl ?_
      exact ⟨_, _, ts, rfl, ⟨z, rfl⟩, Hown.out, Hoe.out, Hts.out, Hap.out⟩
end Go.Proofs.Ytkboefmkfpnpjaa
namespace Go.Proofs.Ytkboefmkfpnpjaa
open Go Go.RowKit Go.Proofs

theorem litSL (w : World) (g : Nat) (l : List Int) (e : TypeId) (hg : g = w.heap.size) (n : Nat) (hn : n = l.length) (hm : l.length ≤ 9223372036854775807) : SL (RF encI) 1 (w.alloc (.cells (vA l) e)) (.slice (some ⟨g, 0, none⟩) n n) l := by
  have hcs : (vA l).toList = l.flatMap encI := by
    simp only [vA]
    clear hn hm
    induction l with
    | nil => rfl
    | cons x l ih => simpa [encI, List.flatMap_cons] using ih
  exact (Own.lit (lo := w.heap.size) (w := w) hg (Nat.le_refl _) hn hcs encI_length hm).sl encI_length
theorem iNode_any (a b : Int) (v : Value) (w : World) (h : SL (RF encI) 1 w v [a, b]) (a0 : 0 ≤ a) (a1 : a < 1000003) (b0 : 0 ≤ b) (b1 : b < 1000003) :
    Calls Try.prog 67 #[.int .i64 2, v] w fun e w' => e = .returned (.int .i64 (nodeOf a b)) ∧ Up w w' := by
  have hs := sumOf_yes (tag := 2) (by decide) (by decide) (summed_two (a := a) (b := b) ⟨a0, by omega⟩ ⟨b0, by omega⟩)
  have h1 := sumOf_any 2 [a, b] v w h
  rw [hs] at h1
  exact h1
theorem row5_one (v : List Int) : (treeRow v 5)[0]? = some (rootV v) := by
  have h : (treeRow v 5).length = 1 := treeRow_length v 5 (by decide)
  obtain ⟨x, hx⟩ := getElem?_some_of_lt (l := treeRow v 5) (k := 0) (by omega)
  rw [rootV, getD_of hx, hx]
end Go.Proofs.Ytkboefmkfpnpjaa
namespace Go.Proofs.Ytkboefmkfpnpjaa
open Go Go.RowKit Go.Proofs

set_option maxHeartbeats 1000000 in
theorem sSumOf_any (tag : Int) (l : List Int) (v : Value) (w : World) (h : SL (RF encI) 1 w v l) :
    Calls Try.prog 82 #[.int .i64 tag, v] w fun e w' => e = .returned (.int .i64 (sumOf tag l)) ∧ w = w' := by
  have H := Lib.hid h
  obtain ⟨p, cap, rfl, hlen, hc⟩ := h.open
  clear h
  go_enter Try.func82, Try.ntmps82
  go_wp2_with fail
  go_loop [5] (fun s5 => ∃ k : Nat, s5 = .int .i64 k ∧ k ≤ l.length ∧ (l.take k).all (fun n => inR n 0 2000000) = true) (fun s5 => l.length - (intOf s5).toNat)
  case atStart => exact ⟨0, rfl, Nat.zero_le _, rfl⟩
  case round =>
    obtain ⟨k, rfl, hk, hall⟩ := hrel
    by_cases hlt : k < l.length
    · obtain ⟨x, hxk⟩ := getElem?_some_of_lt hlt
      obtain ⟨b, off, rfl, hb, hcc⟩ := hc k x hxk
      have c0 : w.cell? ⟨b, off + k, none⟩ = some (.int .i64 x) := by have := hcc 0 _ rfl; simpa using this
      have k0 : (0 : Int) ≤ (k : Int) := by omega
      have Hx := Lib.hid hxk; have Hall := Lib.hid hall
      clear hc hcc hxk hall
      have kq := fun w => l1In_any x 0 2000000 w
      rcases hq : inR x 0 2000000 with _ | _
      · rw [hq] at kq
        go_wp2_with (go_at_call 66; refine (kq _).mono ?_; rintro e w' ⟨rfl, rfl⟩)
        go_ret
        refine ⟨?_, rfl⟩
        have hs : summed l = false := List.all_eq_false.2 ⟨x, List.mem_of_getElem? Hx.out, by rw [hq]; simp⟩
        rw [sumOf_no hs]; rfl
      · rw [hq] at kq
        go_wp2_with (go_at_call 66; refine (kq _).mono ?_; rintro e w' ⟨rfl, rfl⟩)
        go_round
        case rel => exact ⟨k + 1, by go_num, by omega, by rw [List.take_add_one, Hx.out, List.all_append, Hall.out]; simp [hq]⟩
        case measure => simp [intOf]; omega
    · obtain rfl : k = l.length := by omega
      rw [List.take_length] at hall
      have hs : summed l = true := hall
      have Hs := Lib.hid hs; clear hall hs
      rcases ht : inR tag 0 9 with _ | _
      · go_wp2_with (go_at_call 66; refine (l1In_any _ _ _ _).mono ?_; rintro e w' ⟨rfl, rfl⟩)
        go_ret
        exact ⟨by rw [sumOf_tag ht]; rfl, rfl⟩
      · obtain ⟨t0, t9⟩ := inR_iff.1 ht
        go_wp2_with (first | (go_at_call 66; refine (l1In_any _ _ _ _).mono ?_; rintro e w' ⟨rfl, rfl⟩) | (go_at_call 141; refine (l1Sum_any tag l _ _ H.out t0 t9 Hs.out).mono ?_; rintro e w' ⟨rfl, rfl⟩))
        go_ret
        exact ⟨by rw [sumOf_yes t0 t9 Hs.out]; rfl, rfl⟩
theorem sumOf4_nil : sumOf 4 [] = 21 := rfl
theorem iEffectsSum_nil (w : World) : Calls Try.prog 29 #[.slice none 0 0] w fun e w' => e = .returned (.int .i64 21) ∧ Up w w' := by
  go_enter Try.func29, Try.ntmps29
  go_wp2
  refine wp_loop_rounds 1 ?_; rw [rounds_succ]
  go_wp2_with (go_at_call 67; refine (sumOf_any 4 [] _ _ (SL.nil _ _ _ _ _)).mono ?_; rintro e w' ⟨rfl, z, rfl⟩)
  go_ret
  exact ⟨rfl, (.of (by repeat (first | exact Ext.refl _ | refine Ext.up ?_ _ | refine Ext.alloc ?_ _ | refine Ext.drew ?_ | refine Ext.setRow ?_ (by first | (dsimp only; omega) | exact LeS.le | exact LeS.add _ | (simp; done) | (simp; omega)) _ | refine Ext.setCell ?_ (by first | (dsimp only; omega) | exact LeS.le | exact LeS.add _ | (simp; done) | (simp; omega)) _)))⟩
theorem sEffectsSum_nil (a : Option Addr) (c : Nat) (w : World) : Calls Try.prog 30 #[.slice a 0 c] w fun e w' => e = .returned (.int .i64 21) ∧ Up w w' := by
  go_enter Try.func30, Try.ntmps30
  go_wp2
  refine wp_loop_rounds 1 ?_; rw [rounds_succ]
  go_wp2_with (go_at_call 82; refine (sSumOf_any 4 [] _ _ (SL.nil _ _ _ _ _)).mono ?_; rintro e w' ⟨rfl, rfl⟩)
  go_ret
  exact ⟨rfl, (.of (by repeat (first | exact Ext.refl _ | refine Ext.up ?_ _ | refine Ext.alloc ?_ _ | refine Ext.drew ?_ | refine Ext.setRow ?_ (by first | (dsimp only; omega) | exact LeS.le | exact LeS.add _ | (simp; done) | (simp; omega)) _ | refine Ext.setCell ?_ (by first | (dsimp only; omega) | exact LeS.le | exact LeS.add _ | (simp; done) | (simp; omega)) _)))⟩
def Blk.agg (b : Blk) (v : Value) : Value := .agg #[.int .i64 b.bf, .int .i64 b.ht, .int .i64 b.vw, v, .int .i64 b.rt, .int .i64 b.ef]
end Go.Proofs.Ytkboefmkfpnpjaa
namespace Go.Proofs.Ytkboefmkfpnpjaa
open Go Go.RowKit Go.Proofs

theorem guards6 (a b c d e f : Bool) : a = false ∨ (a = true ∧ b = false) ∨ (a = true ∧ b = true ∧ c = false) ∨ (a = true ∧ b = true ∧ c = true ∧ d = false) ∨ (a = true ∧ b = true ∧ c = true ∧ d = true ∧ e = false) ∨ (a = true ∧ b = true ∧ c = true ∧ d = true ∧ e = true ∧ f = false) ∨ (a = true ∧ b = true ∧ c = true ∧ d = true ∧ e = true ∧ f = true) := by cases a <;> cases b <;> cases c <;> cases d <;> cases e <;> cases f <;> simp
end Go.Proofs.Ytkboefmkfpnpjaa
