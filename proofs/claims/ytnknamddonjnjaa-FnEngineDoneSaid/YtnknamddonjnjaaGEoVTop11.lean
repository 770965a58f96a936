/- Walks: what an action does, on the program's side. Walks: writes, on the reference's side. Plain ground: effects as lists; slices of effects in memory. Plain ground: append of a whole slice, whichever it is, behind one of the call's own. Walks: actions over a store, effects that are applied, runs: the reference's side. -/
import Derived.Test.YtnknamddonjnjaaGEoVTop10
import Derived.Test.YtnknamddonjnjaaGEoVTop01
import Derived.Test.YtnknamddonjnjaaGEoVTop06
import Derived.Test.YtnknamddonjnjaaGEoVTop03
import Derived.Test.YtnknamddonjnjaaGEoVTop09
import Derived.Test.YtnknamddonjnjaaGEoVTop05
import Derived.Test.YtnknamddonjnjaaGEoVTop04
import Derived.Laws.AppendOwnNone
set_option linter.unusedSimpArgs false
set_option linter.unusedVariables false
namespace Go.Proofs.Ytnknamddonjnjaa
open Go Go.RowKit Go.Proofs Go.Maps

theorem rds_keys (x : Actn) (f t : Int) : (x.rds f t).map (·.k) = x.rk := by
  unfold Actn.rds
  rw [List.map_map]
  exact List.map_id _
theorem wrs_keys {x : Actn} (h : x.ok = true) (f t : Int) : (x.wrs f t).map (·.k) = x.wk := by
  obtain ⟨kd, a, b, m⟩ := x
  simp only [Actn.ok, Bool.and_eq_true, inR_iff] at h
  obtain ⟨_, _, _, hko⟩ := h
  unfold kindOk at hko
  unfold Actn.wrs Actn.wk sort2
  dsimp only at hko ⊢
  rcases kinds kd with rfl | rfl | rfl | rfl | rfl | rfl | ⟨n1, n2, n3, n4, n5, n6⟩
  all_goals (try simp)
  all_goals (try (repeat' split))
  all_goals (try simp_all)
  all_goals (try omega)
theorem rds_at {x : Actn} (hx : x.ok = true) {v : List Int} (hv : v.length = 32) : ∀ y ∈ x.rds (v.getD x.src.toNat 0) (v.getD x.dst.toNat 0), 0 ≤ y.k ∧ y.k ≤ 31 ∧ v[y.k.toNat]? = some y.v := by
  intro y hy
  unfold Actn.rds at hy
  obtain ⟨key, hk, rfl⟩ := List.mem_map.1 hy
  obtain ⟨k0, k1⟩ := Actn.rk_in hx key hk
  refine ⟨k0, k1, ?_⟩
  dsimp only
  have hd : key = x.src ∨ key = x.dst := by
    unfold Actn.rk at hk
    split at hk <;> (try split at hk) <;> simp at hk <;> first | (left; exact hk) | (right; exact hk) | exact hk
  obtain ⟨c, hc⟩ := getElem?_some_of_lt (l := v) (k := key.toNat) (by omega)
  rw [hc]
  by_cases e : key = x.src
  · rw [if_pos e, ← e]; simp [List.getD, hc]
  · rw [if_neg e]
    rcases hd with h | h
    · exact absurd h e
    · rw [← h]; simp [List.getD, hc]
theorem row4 (w : World) (a b c d : Obj) : ((((w.alloc a).alloc b).alloc c).alloc d).heap[w.heap.size + 1 + 1 + 1]? = some d ∧ ((((w.alloc a).alloc b).alloc c).alloc d).heap[w.heap.size + 1 + 1]? = some c ∧ ((((w.alloc a).alloc b).alloc c).alloc d).heap[w.heap.size + 1]? = some b := by
  have e : (w.alloc a).heap.size = w.heap.size + 1 := by simp
  have h := row3 (w.alloc a) b c d
  rw [e] at h
  refine ⟨h.1, h.2, ?_⟩
  rw [heap_alloc_old _ d (by simp), heap_alloc_old _ c (by simp)]
  exact e ▸ heap_alloc_new (w.alloc a) b
theorem keepRow' {α : Type} {enc : α → List Value} {e sz lo rb : Nat} {w W1 w7 : World} {v : Value} {l : List α} {o r : Obj} (hG : w.grownBy W1 (some rb)) (hown : Own enc e sz lo W1 v l) (hlt : rb < lo) (hw : w.heap.size ≤ lo) (hr : W1.heap[rb]? = some r) (g8 : (W1.alloc o).grownBy w7 v.ownBlock) :
    w7.heap[rb]? = some r ∧ w.grownBy w7 (some rb) := keepRow hG hown hlt hw hr (o := o) ⟨g8.os, g8.tape, g8.output, g8.size, g8.block⟩
theorem take_snocE {l : List Ent} {k : Nat} {y : Ent} (h : l[k]? = some y) : l.take (k + 1) = l.take k ++ [y] := by
  rw [List.take_add_one, h]; rfl
theorem OwnM.ne_row {P : Program} {kt : TypeId} {w : World} {b n g : Nat} {D : DataW Unit} (h : OwnM P kt w b n D) {cs : Array Value} {t : TypeId} {fr : Nat × Nat} (hr : w.heap[g]? = some (.cells cs t fr)) : b ≠ g := by
  intro e
  subst e
  obtain ⟨⟨es, clock, hb, _⟩, _⟩ := h
  rw [hb] at hr; cases hr
theorem OwnM.keep {P : Program} {kt : TypeId} {w w' : World} {b n g : Nat} {D : DataW Unit} (h : OwnM P kt w b n D) (hg : w.grownBy w' (some g)) (hne : b ≠ g) : OwnM P kt w' b n D := ⟨h.1.kept hg (by simpa using hne), h.2⟩
theorem lit_inj {D : DataW Unit} {k : Lit} {z : DataW Unit} {c v : Int} (h : D.atKey k z = .lit (.int .i64 c)) (h' : D.atKey k z = .lit (.int .i64 v)) : c = v := by rw [h] at h'; cases h'; rfl
theorem wk_wf {a : Int} (h : 0 ≤ a ∧ a ≤ 31) : (Lit.int .i64 a).wf = true := wfI (by omega)
theorem zeroI (w : World) : (zeroValue 3).run Try.prog w = .ok (.int .i64 0) w := by kernel_rfl
set_option maxRecDepth 100000 in
set_option maxHeartbeats 4000000 in
theorem run_any (x : Actn) (v : List Int) (w : World) (hv : v.length = 32) (hvi : valsIn v) (hx : x.ok = true) :
    Calls Try.prog 43 #[.agg #[.int .i64 x.kind, .int .i64 x.src, .int .i64 x.dst, .int .i64 x.amt], .agg (vA v)] w fun e w' => ∃ vr vw, e = .returned (.agg #[.bool (runV v x).d, vr, vw]) ∧ Up w w' ∧ Own Ent.enc 59 2 w.heap.size w' vr (runV v x).r ∧ Own Ent.enc 59 2 w.heap.size w' vw (runV v x).w ∧ Apart vr vw := by
  have kr := fun w => reads_any x w
  have kw := fun w => writes_any x w
  have kq := fun w => result_any x v w hv hvi hx
  have hrl : (x.rds (v.getD x.src.toNat 0) (v.getD x.dst.toNat 0)).length ≤ 2 := by rw [rds_len]; exact Actn.rk_le x
  have hrv := rds_at hx hv
  rw [← rds_keys x (v.getD x.src.toNat 0) (v.getD x.dst.toNat 0)] at kr
  have hwl : (x.wrs (v.getD x.src.toNat 0) (v.getD x.dst.toNat 0)).length ≤ 2 := by
    have := congrArg List.length (wrs_keys hx (v.getD x.src.toNat 0) (v.getD x.dst.toNat 0)); rw [List.length_map] at this; rw [this]; exact Actn.wk_le x
  have hwi := Actn.wk_in hx
  rw [← wrs_keys hx (v.getD x.src.toNat 0) (v.getD x.dst.toNat 0)] at kw hwi
  have hw0 : (runV v x).w = if (runV v x).d = true then x.wrs (v.getD x.src.toNat 0) (v.getD x.dst.toNat 0) else [] := rfl
  have hr0 : (runV v x).r = x.rds (v.getD x.src.toNat 0) (v.getD x.dst.toNat 0) := rfl
  rw [hw0, hr0]
  clear hw0 hr0
  generalize x.rds (v.getD x.src.toNat 0) (v.getD x.dst.toNat 0) = rL at *
  generalize x.wrs (v.getD x.src.toNat 0) (v.getD x.dst.toNat 0) = wL at *
  generalize (runV v x).d = bd at *
  have Hrv := Lib.hid hrv; have Hwi := Lib.hid hwi; have Hv := Lib.hid hv
  clear hv hvi hx hrv hwi
  go_enter Try.func43, Try.ntmps43
  go_wp2_with fail
  refine (kr _).mono ?_; rintro e w' ⟨vk, rfl, ⟨z1, rfl⟩, ok⟩
  clear kr
  obtain ⟨pk, ck, rfl, hkl, hkc⟩ := (ok.sl encI_length).open
  have Hg := Lib.hid (show ∀ g o, pk = some ⟨g, o, none⟩ → w.heap.size + 1 + 1 + 1 < g from fun g o e => by subst e; have := (World.ownsRow.lt ok g rfl).1; simp at this; omega)
  rw [List.length_map] at hkl ⊢
  have Hk := Lib.hid hkc; clear hkc ok
  go_wp2_with fail
  have hE2 : Ext w z1.val := (by repeat (first | (with_reducible exact Ext.refl _) | (with_reducible refine Ext.up ?_ _) | (with_reducible refine Ext.alloc ?_ _) | (with_reducible refine Ext.drew ?_) | (with_reducible refine Ext.setRow ?_ (by first | exact LeS.le | exact LeS.add _ | (simp; done) | (simp; omega)) _) | (with_reducible refine Ext.setCell ?_ (by first | exact LeS.le | exact LeS.add _ | (simp; done) | (simp; omega)) _)))
  have hsz : w.heap.size + 1 + 1 + 1 < z1.val.heap.size := by have := z1.ext.size; simp at this; omega
  have d0 : z1.val.cell? ⟨w.heap.size, 0, none⟩ = some (.int .i64 x.kind) := by go_simp
  have d1 : z1.val.cell? ⟨w.heap.size, 1, none⟩ = some (.int .i64 x.src) := by go_simp
  have d2 : z1.val.cell? ⟨w.heap.size, 2, none⟩ = some (.int .i64 x.dst) := by go_simp
  have d3 : z1.val.cell? ⟨w.heap.size, 3, none⟩ = some (.int .i64 x.amt) := by go_simp
  have r3 : Row 71 z1.val (w.heap.size + 1) v := (Extd.row z1 _).trans (row4 _ _ _ _ _).2.2
  have r6 : z1.val.heap[w.heap.size + 1 + 1]? = some (.cells #[.bool false, .slice none 0 0, .slice none 0 0] 37 (0, 0)) := (Extd.row z1 _).trans (row4 _ _ _ _ _).2.1
  have r7 : z1.val.heap[w.heap.size + 1 + 1 + 1]? = some (.cells #[.bool false, .slice none 0 0, .slice none 0 0] 37 (0, 0)) := (Extd.row z1 _).trans (row4 _ _ _ _ _).1
  generalize z1.val = W2 at *
  have hL3 : LtS w.heap.size W2 := ⟨by omega⟩
  have hL5 : LtS (w.heap.size + 1) W2 := ⟨by omega⟩
  have hL6 : LtS (w.heap.size + 1 + 1) W2 := ⟨by omega⟩
  have hL7 : LtS (w.heap.size + 1 + 1 + 1) W2 := ⟨by omega⟩
  have hN3 : NeS w.heap.size (w.heap.size + 1 + 1 + 1) := ⟨by omega⟩
  have hN5 : NeS (w.heap.size + 1) (w.heap.size + 1 + 1 + 1) := ⟨by omega⟩
  have hN6 : NeS (w.heap.size + 1 + 1) (w.heap.size + 1 + 1 + 1) := ⟨by omega⟩
  go_loopw [7, 15] (fun _ s9 wr => ∃ (k : Nat) (vr : Value), s9 = .int .i64 k ∧ k ≤ rL.length ∧ (∃ z : ExtR (w.heap.size + 1 + 1 + 1) W2, wr = z.val) ∧ wr.heap[w.heap.size + 1 + 1 + 1]? = some (.cells #[.bool false, vr, .slice none 0 0] 37 (0, 0)) ∧ Own Ent.enc 59 2 W2.heap.size wr vr (rL.take k)) (fun _ s9 _ => rL.length - (intOf s9).toNat)
  case atStart => exact ⟨0, _, rfl, Nat.zero_le _, ⟨⟨W2, grownBy_refl _ _⟩, rfl⟩, r7, Own.nil _ _ _ _ _⟩
  case round =>
    obtain ⟨k, vr, rfl, hk, ⟨z, rfl⟩, hr7, hown⟩ := hrel
    have hlk : (rL.take k).length = k := by rw [List.length_take]; omega
    obtain ⟨pr, cr, hvr, _, _⟩ := (hown.sl Ent.enc_length).openc
    rw [hlk] at hvr
    subst hvr
    have Hlk := Lib.hid hlk; clear hlk
    have Hown := Lib.hid hown; have H7 := Lib.hid hr7
    have hLz7 : LtS (w.heap.size + 1 + 1 + 1) z.val := inferInstance
    have c70 : z.val.cell? ⟨w.heap.size + 1 + 1 + 1, 0, none⟩ = some (.bool false) := cell_of_row _ _ 0 _ _ _ hr7
    have c71 : z.val.cell? ⟨w.heap.size + 1 + 1 + 1, 1, none⟩ = some (.slice pr k cr) := cell_of_row _ _ 1 _ _ _ hr7
    have c72 : z.val.cell? ⟨w.heap.size + 1 + 1 + 1, 2, none⟩ = some (.slice none 0 0) := cell_of_row _ _ 2 _ _ _ hr7
    have f70 : z.val.frozen? ⟨w.heap.size + 1 + 1 + 1, 0, none⟩ = false := frozen_of_row _ _ 0 _ _ hr7
    have f71 : z.val.frozen? ⟨w.heap.size + 1 + 1 + 1, 1, none⟩ = false := frozen_of_row _ _ 1 _ _ hr7
    have f72 : z.val.frozen? ⟨w.heap.size + 1 + 1 + 1, 2, none⟩ = false := frozen_of_row _ _ 2 _ _ hr7
    have hEz : Ext w z.val := hE2.upR (by omega) z
    clear hown hr7
    by_cases hlt : k < rL.length
    · obtain ⟨y, hyk⟩ := getElem?_some_of_lt hlt
      obtain ⟨gk, offk, rfl, hLk, hcc⟩ := Hk.out k y.k (by rw [List.getElem?_map, hyk]; rfl)
      have hgn := Hg.out gk offk rfl
      have hNk : NeS gk (w.heap.size + 1 + 1 + 1) := ⟨by omega⟩
      have ck0 : W2.cell? ⟨gk, offk + k, none⟩ = some (.int .i64 y.k) := by have := hcc 0 _ rfl; simpa using this
      have ck : z.val.cell? ⟨gk, offk + k, none⟩ = some (.int .i64 y.k) := (z.cell _ _).trans ck0
      obtain ⟨y0, y1, hyv⟩ := Hrv.out y (List.mem_of_getElem? hyk)
      have y2 : y.k < 32 := by omega
      have e0 : W2.cell? ⟨w.heap.size + 1, y.k.toNat, none⟩ = some (.int .i64 y.v) := r3.cell hyv
      have e1 : z.val.cell? ⟨w.heap.size + 1, y.k.toNat, none⟩ = some (.int .i64 y.v) := (z.cell _ _).trans e0
      have Hyk := Lib.hid (take_snocE hyk)
      have hl2 : (rL.take k).length ≤ 2 := by rw [List.length_take]; omega
      have R3 := Lib.hid r3
      clear hcc hyk hyv r3
      go_wp2_with fail
      go_region_law (refine step_pushG fEnt (by rfl) (.tmp 20) (.tmp 26) (by rfl) Ent.enc Ent.enc_length w (lo := W2.heap.size) [⟨y.k, y.v⟩] (rL.take k) (by rfl) (by rfl) (heap_alloc_new _ _) (Hown.out.up (by repeat (first | exact Ext.refl _ | refine Ext.up ?_ _ | refine Ext.alloc ?_ _ | refine Ext.drew ?_ | refine Ext.setRow ?_ (by first | (dsimp only; omega) | exact LeS.le | exact LeS.add _ | (simp; done) | (simp; omega)) _ | refine Ext.setCell ?_ (by first | (dsimp only; omega) | exact LeS.le | exact LeS.add _ | (simp; done) | (simp; omega)) _))) (Ext.drew (Ext.alloc hEz _)) (by omega) LeS.le (by rfl) (by decide) (by rfl) (oneEs' _) (by rw [Hlk.out]; simp; omega) (by rw [Hlk.out]; simp; omega) ?_; intro v7 z7 o7 g7 b7; obtain ⟨R7, G7⟩ := keepRow z.grown Hown.out (by omega) (Nat.le_refl _) H7.out g7; obtain ⟨p7, c7, hv7, _, _⟩ := (o7.sl Ent.enc_length).openc; rw [List.length_append, Hlk.out] at hv7; rw [show k + [(⟨y.k, y.v⟩ : Ent)].length = k + 1 from rfl] at hv7; subst hv7; have e71 := cell_of_row _ _ 1 _ _ _ R7; have e7f := frozen_of_row _ _ 1 _ _ R7; have O7 := Lib.hid o7; have HR7 := Lib.hid R7; have HG7 := Lib.hid G7; clear o7 R7 G7 g7 b7)
      all_goals
        go_wp2_with fail
        go_roundw
        case rel =>
          refine ⟨k + 1, _, by go_num, by omega, ExtR.of (grownBy_trans HG7.out (grownBy_set _ _ _)), (heap_setCell_same _ _ 1 _ _ _ HR7.out).trans rfl, ?_⟩
          refine Own.setLo ?_ (by omega)
          rw [Hyk.out]
          exact O7.out
        case measure => simp [intOf]; omega
    · obtain rfl : k = rL.length := by omega
      rw [List.take_length] at Hown
      have q3 : Row 71 z.val (w.heap.size + 1) v := (z.block hL5.lt hN5.ne).trans r3
      have q6 : z.val.heap[w.heap.size + 1 + 1]? = some (.cells #[.bool false, .slice none 0 0, .slice none 0 0] 37 (0, 0)) := (z.block hL6.lt hN6.ne).trans r6
      have c30 : z.val.cell? ⟨w.heap.size, 0, none⟩ = some (.int .i64 x.kind) := (z.cell _ _).trans d0
      have c31 : z.val.cell? ⟨w.heap.size, 1, none⟩ = some (.int .i64 x.src) := (z.cell _ _).trans d1
      have c32 : z.val.cell? ⟨w.heap.size, 2, none⟩ = some (.int .i64 x.dst) := (z.cell _ _).trans d2
      have c33 : z.val.cell? ⟨w.heap.size, 3, none⟩ = some (.int .i64 x.amt) := (z.cell _ _).trans d3
      have hsz2 : W2.heap.size ≤ z.val.heap.size := z.grown.size
      have hLz3 : LtS w.heap.size z.val := inferInstance
      have hLz5 : LtS (w.heap.size + 1) z.val := inferInstance
      have hLz6 : LtS (w.heap.size + 1 + 1) z.val := inferInstance
      clear r3 r6 r7 d0 d1 d2 d3 Hk Hg Hlk Hrv
      generalize z.val = W9 at *
      clear z
      obtain ⟨z9, rfl⟩ := Up.of hEz
      have c60 : z9.val.cell? ⟨w.heap.size + 1 + 1, 0, none⟩ = some (.bool false) := cell_of_row _ _ 0 _ _ _ q6
      have c61 : z9.val.cell? ⟨w.heap.size + 1 + 1, 1, none⟩ = some (.slice none 0 0) := cell_of_row _ _ 1 _ _ _ q6
      have c62 : z9.val.cell? ⟨w.heap.size + 1 + 1, 2, none⟩ = some (.slice none 0 0) := cell_of_row _ _ 2 _ _ _ q6
      have f60 := frozen_of_row _ _ 0 _ _ q6
      have f61 := frozen_of_row _ _ 1 _ _ q6
      have f62 := frozen_of_row _ _ 2 _ _ q6
      have Q3 := Lib.hid q3; have Q6 := Lib.hid q6
      clear q3 q6
      rcases bd with _ | _
      · go_wp2_with (first | (refine wpList_load_row rfl _ _ rfl _ rfl _ _ _ _ Q3.out.eq Try.underlying71 rfl (by rw [vA_size, Hv.out]; exact Try.sVals) ?_) | (go_at_call 71; refine (kq _).mono ?_; rintro e w' ⟨b, D, rfl, ⟨z10, rfl⟩, om, ha⟩))
        refine bodyPost_ret (v := .agg #[.bool false, .slice pr rL.length cr, .slice none 0 0]) (by simp [results, Try.results43, go_sem, c60, c61, c62]) rfl ?_
        refine ⟨_, _, rfl, (.of (by repeat (first | (with_reducible exact Ext.refl _) | (with_reducible refine Ext.up ?_ _) | (with_reducible refine Ext.alloc ?_ _) | (with_reducible refine Ext.drew ?_) | (with_reducible refine Ext.setRow ?_ (by first | exact LeS.le | exact LeS.add _ | (simp; done) | (simp; omega)) _) | (with_reducible refine Ext.setCell ?_ (by first | exact LeS.le | exact LeS.add _ | (simp; done) | (simp; omega)) _)))), (by refine Own.lo (lo := W2.heap.size) ?_ (by omega); (repeat (first | (with_reducible exact Hown.out) | (with_reducible refine Own.setLo ?_ (by omega)) | (with_reducible refine Own.alloc ?_) | (with_reducible refine Own.up ?_ (Extd.ext _)) | (exact Hown.out)))), Own.nil _ _ _ _ _, Apart.nil' _ _ _⟩
      · go_wp2_with (first | (refine wpList_load_row rfl _ _ rfl _ rfl _ _ _ _ Q3.out.eq Try.underlying71 rfl (by rw [vA_size, Hv.out]; exact Try.sVals) ?_) | (go_at_call 71; refine (kq _).mono ?_; rintro e w' ⟨b, D, rfl, ⟨z10, rfl⟩, om, ha⟩))
        refine (kw _).mono ?_; rintro e w' ⟨vk, rfl, ⟨z11, rfl⟩, ok⟩
        have s7 : z10.val.heap[w.heap.size + 1 + 1 + 1]? = _ := (Extd.row z10 _).trans H7.out
        have hbn := om.ne_row s7
        have om2 := (om.keep (grownBy_set _ ⟨w.heap.size + 1 + 1 + 1, 0, none⟩ (.bool true)) hbn).up z11.ext
        have s8 : z11.val.heap[w.heap.size + 1 + 1 + 1]? = some (.cells #[.bool true, .slice pr rL.length cr, .slice none 0 0] 37 (0, 0)) := (Extd.row z11 _).trans ((heap_setCell_same _ _ 0 _ _ _ s7).trans rfl)
        have s6 : z11.val.heap[w.heap.size + 1 + 1]? = some (.cells #[.bool false, .slice none 0 0, .slice none 0 0] 37 (0, 0)) := (Extd.row z11 _).trans ((heap_setCell_other _ _ _ _ hN6.ne).trans ((Extd.row z10 _).trans Q6.out))
        have hown2 : Own Ent.enc 59 2 W2.heap.size z11.val (.slice pr rL.length cr) rL := (Own.setLo (Hown.out.up z10.ext) (by omega)).up z11.ext
        have hE11 : Ext w z11.val := (by repeat (first | (with_reducible exact Ext.refl _) | (with_reducible refine Ext.up ?_ _) | (with_reducible refine Ext.alloc ?_ _) | (with_reducible refine Ext.drew ?_) | (with_reducible refine Ext.setRow ?_ (by first | exact LeS.le | exact LeS.add _ | (simp; done) | (simp; omega)) _) | (with_reducible refine Ext.setCell ?_ (by first | exact LeS.le | exact LeS.add _ | (simp; done) | (simp; omega)) _)))
        have hz9 : z9.val.heap.size ≤ z11.val.heap.size := by have h1 := z10.ext.size; have h2 := z11.ext.size; simp [setCell_sz] at h2; omega
        obtain ⟨pk, ck, rfl, hkl2, hkc⟩ := (ok.sl encI_length).open
        have Hg := Lib.hid (show ∀ g o, pk = some ⟨g, o, none⟩ → w.heap.size + 1 + 1 + 1 < g from fun g o e => by subst e; have := (World.ownsRow.lt ok g rfl).1; have h1 := z10.ext.size; simp [setCell_sz] at this; omega)
        rw [List.length_map] at hkl2 ⊢
        have Hk := Lib.hid hkc; clear hkc ok
        have hL3' : LtS w.heap.size z11.val := inferInstance
        have hL6' : LtS (w.heap.size + 1 + 1) z11.val := inferInstance
        have hL7' : LtS (w.heap.size + 1 + 1 + 1) z11.val := inferInstance
        have Hom := Lib.hid om2; have Hha := Lib.hid ha; have S6 := Lib.hid s6; have Hown2 := Lib.hid hown2
        have A0 := Lib.hid Hown.out
        clear om om2 ha s6 s7 hown2 c60 c61 c62 f60 f61 f62 c70 c71 c72 f70 f71 f72 Q6 Q3 H7 Hown kq kw
        go_wp2_with fail
        generalize z11.val = W11 at *
        go_loopw [11, 42] (fun _ s9 wr => ∃ (k : Nat) (vw : Value), s9 = .int .i64 k ∧ k ≤ wL.length ∧ (∃ z : ExtR (w.heap.size + 1 + 1 + 1) W11, wr = z.val) ∧ wr.heap[w.heap.size + 1 + 1 + 1]? = some (.cells #[.bool true, .slice pr rL.length cr, vw] 37 (0, 0)) ∧ Own Ent.enc 59 2 W11.heap.size wr vw (wL.take k)) (fun _ s9 _ => wL.length - (intOf s9).toNat)
        case atStart => exact ⟨0, _, rfl, Nat.zero_le _, ⟨⟨W11, grownBy_refl _ _⟩, rfl⟩, s8, Own.nil _ _ _ _ _⟩
        case round =>
          obtain ⟨k, vw, rfl, hk2, ⟨z, rfl⟩, hr7, hown⟩ := hrel
          have hlk : (wL.take k).length = k := by rw [List.length_take]; omega
          obtain ⟨pw, cw, hvw, _, _⟩ := (hown.sl Ent.enc_length).openc
          rw [hlk] at hvw
          subst hvw
          have Hlk := Lib.hid hlk; clear hlk
          have Hown := Lib.hid hown; have H7 := Lib.hid hr7
          have hLz7 : LtS (w.heap.size + 1 + 1 + 1) z.val := inferInstance
          have c70 : z.val.cell? ⟨w.heap.size + 1 + 1 + 1, 0, none⟩ = some (.bool true) := cell_of_row _ _ 0 _ _ _ hr7
          have c71 : z.val.cell? ⟨w.heap.size + 1 + 1 + 1, 1, none⟩ = some (.slice pr rL.length cr) := cell_of_row _ _ 1 _ _ _ hr7
          have c72 : z.val.cell? ⟨w.heap.size + 1 + 1 + 1, 2, none⟩ = some (.slice pw k cw) := cell_of_row _ _ 2 _ _ _ hr7
          have f70 : z.val.frozen? ⟨w.heap.size + 1 + 1 + 1, 0, none⟩ = false := frozen_of_row _ _ 0 _ _ hr7
          have f71 : z.val.frozen? ⟨w.heap.size + 1 + 1 + 1, 1, none⟩ = false := frozen_of_row _ _ 1 _ _ hr7
          have f72 : z.val.frozen? ⟨w.heap.size + 1 + 1 + 1, 2, none⟩ = false := frozen_of_row _ _ 2 _ _ hr7
          have hEw : Ext w z.val := hE11.upR (by omega) z
          have hzz : W11.heap.size ≤ z.val.heap.size := z.grown.size
          clear hown hr7
          by_cases hlt : k < wL.length
          · obtain ⟨y, hyk⟩ := getElem?_some_of_lt hlt
            obtain ⟨gk, offk, rfl, hLk, hcc⟩ := Hk.out k y.k (by rw [List.getElem?_map, hyk]; rfl)
            have hgn := Hg.out gk offk rfl
            have hNk : NeS gk (w.heap.size + 1 + 1 + 1) := ⟨by omega⟩
            have ck0 : W11.cell? ⟨gk, offk + k, none⟩ = some (.int .i64 y.k) := by have := hcc 0 _ rfl; simpa using this
            have ck : z.val.cell? ⟨gk, offk + k, none⟩ = some (.int .i64 y.k) := (z.cell _ _).trans ck0
            have hyi := Hwi.out y.k (List.mem_map.2 ⟨y, List.mem_of_getElem? hyk, rfl⟩)
            have hya := Lib.hid (Hha.out y (List.mem_of_getElem? hyk))
            have HomZ := Lib.hid (Hom.out.keep z.grown hbn)
            have Hyk := Lib.hid (take_snocE hyk)
            have hl2 : (wL.take k).length ≤ 2 := by rw [List.length_take]; omega
            have hwf := Lib.hid (wk_wf hyi)
            clear hcc hyk hyi
            go_wp2_with (first | (at_lookup; refine wpList_lookup_own_int _ rfl _ _ 96 rfl 3 3 .i64 (int_keyed Try.underlying3) Try.underlying96 Try.underlying3 (zeroI _) b 2 D rfl HomZ.out.1 _ _ rfl (keyOf_int_mk Try.underlying3 hwf.out) ?_; intro c hat hwc; obtain rfl := lit_inj hat hya.out; clear hat hwc) | (at_builtin; refine wpList_pushG fEnt rfl (.tmp 47) (.tmp 53) rfl Ent.enc Ent.enc_length w (lo := W11.heap.size) [⟨y.k, y.v⟩] (wL.take k) rfl Hown.out hEw hE11.size hzz rfl rfl (by go_simp) rfl (oneEs' _) (by rw [Hlk.out]; simp; omega) (by rw [Hlk.out]; simp; omega) ?_; intro v7 z7 o7 g7 b7; obtain ⟨R7, G7⟩ := keepRow' z.grown Hown.out (by omega) (Nat.le_refl _) H7.out g7; obtain ⟨p7, c7, hv7, _, _⟩ := (o7.sl Ent.enc_length).openc; rw [List.length_append, Hlk.out] at hv7; rw [show k + [(⟨y.k, y.v⟩ : Ent)].length = k + 1 from rfl] at hv7; subst hv7; have e71 := cell_of_row _ _ 2 _ _ _ R7; have e7f := frozen_of_row _ _ 2 _ _ R7; have O7 := Lib.hid o7; have HR7 := Lib.hid R7; have HG7 := Lib.hid G7; clear o7 R7 G7 g7 b7))
            go_roundw
            case rel =>
              refine ⟨k + 1, _, by go_num, by omega, ExtR.of (grownBy_trans HG7.out (grownBy_set _ _ _)), (heap_setCell_same _ _ 2 _ _ _ HR7.out).trans rfl, ?_⟩
              refine Own.setLo ?_ (by omega)
              rw [Hyk.out]
              exact O7.out
            case measure => simp [intOf]; omega
          · obtain rfl : k = wL.length := by omega
            rw [List.take_length] at Hown
            have q6 := (z.block hL6'.lt hN6.ne).trans S6.out
            have c60 : z.val.cell? ⟨w.heap.size + 1 + 1, 0, none⟩ = some (.bool false) := cell_of_row _ _ 0 _ _ _ q6
            have c61 : z.val.cell? ⟨w.heap.size + 1 + 1, 1, none⟩ = some (.slice none 0 0) := cell_of_row _ _ 1 _ _ _ q6
            have c62 : z.val.cell? ⟨w.heap.size + 1 + 1, 2, none⟩ = some (.slice none 0 0) := cell_of_row _ _ 2 _ _ _ q6
            have f60 := frozen_of_row _ _ 0 _ _ q6
            have f61 := frozen_of_row _ _ 1 _ _ q6
            have f62 := frozen_of_row _ _ 2 _ _ q6
            have HA := Lib.hid (Own.kept Hown2.out z.grown (Hown2.out.ne_rb (by omega)))
            have AP := Lib.hid (Apart.of_lt A0.out Hown.out (by omega))
            clear q6 Hk Hg
            generalize z.val = W12 at *
            clear z
            obtain ⟨z12, rfl⟩ := Up.of hEw
            go_wp2_with fail
            refine bodyPost_ret (v := .agg #[.bool true, .slice pr rL.length cr, .slice pw wL.length cw]) (by simp [results, Try.results43, go_sem, c60, c61, c62]) rfl ?_
            refine ⟨_, _, rfl, (.of (by repeat (first | (with_reducible exact Ext.refl _) | (with_reducible refine Ext.up ?_ _) | (with_reducible refine Ext.alloc ?_ _) | (with_reducible refine Ext.drew ?_) | (with_reducible refine Ext.setRow ?_ (by first | exact LeS.le | exact LeS.add _ | (simp; done) | (simp; omega)) _) | (with_reducible refine Ext.setCell ?_ (by first | exact LeS.le | exact LeS.add _ | (simp; done) | (simp; omega)) _)))), (by refine Own.lo (lo := W2.heap.size) ?_ (by omega); (repeat (with_reducible refine Own.setLo ?_ (by omega))); exact HA.out), (by refine Own.lo (lo := W11.heap.size) ?_ (by omega); (repeat (with_reducible refine Own.setLo ?_ (by omega))); exact Hown.out), AP.out⟩
end Go.Proofs.Ytnknamddonjnjaa
namespace Go.Proofs.Ytnknamddonjnjaa
open Go Go.RowKit Go.Proofs

end Go.Proofs.Ytnknamddonjnjaa
namespace Go.Proofs.Ytnknamddonjnjaa
open Go Go.RowKit

structure TE where
  d : Bool
  vr : Value
  vw : Value
  r : List Ent
  w : List Ent
def TE.enc (x : TE) : List Value := [.bool x.d, x.vr, x.vw]
theorem TE.enc_length (x : TE) : x.enc.length = 3 := rfl
def TE.core (x : TE) : Eff := ⟨x.d, x.r, x.w⟩
def SE (w : World) (v : Value) (es : List Eff) : Prop := ∃ ts : List TE, es = ts.map TE.core ∧ SL (RF TE.enc) 3 w v ts ∧ ∀ x ∈ ts, SL (RF Ent.enc) 2 w x.vr x.r ∧ SL (RF Ent.enc) 2 w x.vw x.w
theorem SE.up {w w' : World} {v : Value} {es : List Eff} (h : SE w v es) (hE : Ext w w') : SE w' v es := by
  obtain ⟨ts, h1, h2, h3⟩ := h
  exact ⟨ts, h1, h2.up hE, fun x hx => ⟨(h3 x hx).1.up hE, (h3 x hx).2.up hE⟩⟩
theorem SE.nil (w : World) (a : Option Addr) (c : Nat) : SE w (.slice a 0 c) [] := ⟨[], rfl, SL.nil _ _ _ _ _, by simp⟩
theorem SE.open {w : World} {v : Value} {es : List Eff} (h : SE w v es) : ∃ a cap, v = .slice a es.length cap ∧ es.length ≤ 9223372036854775807 ∧ es.length ≤ cap ∧ ∀ (k : Nat) x, es[k]? = some x → ∃ b off p c p' c', a = some ⟨b, off, none⟩ ∧ LtS b w ∧
    w.cell? ⟨b, off + k * 3, none⟩ = some (.bool x.d) ∧ w.cell? ⟨b, off + k * 3 + 1, none⟩ = some (.slice p x.r.length c) ∧ w.cell? ⟨b, off + k * 3 + 2, none⟩ = some (.slice p' x.w.length c') ∧ SL (RF Ent.enc) 2 w (.slice p x.r.length c) x.r ∧ SL (RF Ent.enc) 2 w (.slice p' x.w.length c') x.w := by
  obtain ⟨ts, rfl, h2, h3⟩ := h
  obtain ⟨a, cap, rfl, hl, hcap⟩ := h2.openc
  obtain ⟨a', cap', e', _, hc⟩ := h2.open
  cases e'
  refine ⟨a, cap, by rw [List.length_map], by rw [List.length_map]; exact hl, by rw [List.length_map]; exact hcap, fun k x hx => ?_⟩
  rw [List.getElem?_map, Option.map_eq_some_iff] at hx
  obtain ⟨y, hy, rfl⟩ := hx
  obtain ⟨b, off, ha, hb, hcc⟩ := hc k y hy
  obtain ⟨s1, s2⟩ := h3 y (List.mem_of_getElem? hy)
  obtain ⟨p, c, hv, _, _⟩ := s1.openc
  obtain ⟨p', c', hv', _, _⟩ := s2.openc
  have hd : w.cell? ⟨b, off + k * 3 + 1, none⟩ = some y.vr := hcc 1 _ rfl
  have hd' : w.cell? ⟨b, off + k * 3 + 2, none⟩ = some y.vw := hcc 2 _ rfl
  rw [hv] at hd s1
  rw [hv'] at hd' s2
  exact ⟨b, off, p, c, p', c', ha, hb, hcc 0 _ rfl, hd, hd', s1, s2⟩
/-- Effects of the call's own. -/
def OE (eT eE lo : Nat) (w : World) (v : Value) (ts : List TE) : Prop := Own TE.enc eT 3 lo w v ts ∧ ∀ x ∈ ts, (Own Ent.enc eE 2 lo w x.vr x.r ∧ Apart x.vr v) ∧ (Own Ent.enc eE 2 lo w x.vw x.w ∧ Apart x.vw v)
theorem OE.se {eT eE lo : Nat} {w : World} {v : Value} {ts : List TE} (h : OE eT eE lo w v ts) : SE w v (ts.map TE.core) := ⟨ts, rfl, h.1.sl TE.enc_length, fun x hx => ⟨(h.2 x hx).1.1.sl Ent.enc_length, (h.2 x hx).2.1.sl Ent.enc_length⟩⟩
theorem OE.up {eT eE lo : Nat} {w w' : World} {v : Value} {ts : List TE} (h : OE eT eE lo w v ts) (hE : Ext w w') : OE eT eE lo w' v ts := ⟨h.1.up hE, fun x hx => ⟨⟨(h.2 x hx).1.1.up hE, (h.2 x hx).1.2⟩, ⟨(h.2 x hx).2.1.up hE, (h.2 x hx).2.2⟩⟩⟩
theorem OE.lo {eT eE lo lo' : Nat} {w : World} {v : Value} {ts : List TE} (h : OE eT eE lo w v ts) (hl : lo' ≤ lo) : OE eT eE lo' w v ts := ⟨h.1.lo hl, fun x hx => ⟨⟨(h.2 x hx).1.1.lo hl, (h.2 x hx).1.2⟩, ⟨(h.2 x hx).2.1.lo hl, (h.2 x hx).2.2⟩⟩⟩
/-- One effect more. -/
theorem OE.snoc {eT eE lo : Nat} {w w' : World} {v v' : Value} {ts : List TE} {x : TE} (h : OE eT eE lo w v ts) (hg : w.grownBy w' v.ownBlock) (hb : v'.ownBlock = v.ownBlock ∨ v'.ownBlock = some w.heap.size)
    (ho : Own TE.enc eT 3 lo w' v' (ts ++ [x])) (hr : Own Ent.enc eE 2 lo w x.vr x.r) (ar : Apart x.vr v) (hw : Own Ent.enc eE 2 lo w x.vw x.w) (aw : Apart x.vw v) : OE eT eE lo w' v' (ts ++ [x]) := by
  refine ⟨ho, fun y hy => ?_⟩
  rcases List.mem_append.1 hy with hy | hy
  · obtain ⟨⟨a1, a2⟩, ⟨a3, a4⟩⟩ := h.2 y hy
    exact ⟨⟨a1.keep hg a2, Apart.grown a1 a2 (Nat.le_refl _) hb⟩, ⟨a3.keep hg a4, Apart.grown a3 a4 (Nat.le_refl _) hb⟩⟩
  · rw [List.mem_singleton] at hy; subst hy
    exact ⟨⟨hr.keep hg ar, Apart.grown hr ar (Nat.le_refl _) hb⟩, ⟨hw.keep hg aw, Apart.grown hw aw (Nat.le_refl _) hb⟩⟩
/-! ### Sums of effects -/
def entNums (l : List Ent) : List Int := l.flatMap fun x => [x.k, x.v]
theorem entNums_length (l : List Ent) : (entNums l).length = 2 * l.length := by
  induction l with
  | nil => rfl
  | cons x l ih => unfold entNums at *; rw [List.flatMap_cons, List.length_append, ih]; simp; omega
theorem entNums_snoc {l : List Ent} {k : Nat} {x : Ent} (h : l[k]? = some x) : entNums (l.take (k + 1)) = entNums (l.take k) ++ [x.k, x.v] := by
  rw [List.take_add_one, h]; simp [entNums]
def effNums (e : Eff) : List Int := [if e.d = true then 1 else 0, (e.r.length : Int)] ++ entNums e.r ++ entNums e.w
def effSum (e : Eff) : Int := sumOf 3 (effNums e)
def effsSum (l : List Eff) : Int := if l.length ≤ 10 then sumOf 4 (l.map effSum) else -1
theorem effSums_snoc {l : List Eff} {k : Nat} {x : Eff} (h : l[k]? = some x) : (l.take (k + 1)).map effSum = (l.take k).map effSum ++ [effSum x] := by
  rw [List.take_add_one, h]; simp
end Go.Proofs.Ytnknamddonjnjaa
namespace Go.Proofs.Ytnknamddonjnjaa
open Go Go.RowKit Go.Proofs

theorem SL.flatC {α : Type} {enc : α → List Value} {sz : Nat} (he : ∀ x, (enc x).length = sz) {w : World} {b off n c : Nat} {l : List α} (h : SL (RF enc) sz w (.slice (some ⟨b, off, none⟩) n c) l) : ∀ j u, (l.flatMap enc)[j]? = some u → w.cell? ⟨b, off + j, none⟩ = some u := by
  intro j u hu
  obtain ⟨a', c', e, _, hc⟩ := h.open
  cases e
  have hj := (List.getElem?_eq_some_iff.1 hu).1
  rw [flatMap_length he] at hj
  have hsz : 0 < sz := by
    rcases Nat.eq_zero_or_pos sz with h0 | h0
    · subst h0; simp at hj
    · exact h0
  have hi : j / sz < l.length := Nat.div_lt_of_lt_mul (by rw [Nat.mul_comm]; exact hj)
  obtain ⟨x, hx⟩ := getElem?_some_of_lt hi
  have hm : j % sz < (enc x).length := by rw [he]; exact Nat.mod_lt _ hsz
  obtain ⟨u', hu'⟩ := getElem?_some_of_lt hm
  have e : j / sz * sz + j % sz = j := by rw [Nat.mul_comm]; exact Nat.div_add_mod j sz
  have h1 := flatMap_get he hx hu'
  rw [e, hu] at h1
  cases h1
  obtain ⟨b', off', e2, _, hcc⟩ := hc _ x hx
  cases e2
  have h2 := hcc _ _ hu'
  rwa [Nat.add_assoc, e] at h2
theorem run_append_none {P : Program} {w : World} (base : Nat) (t ty e : TypeId) (i : TypeInfo) (size : Nat) (ht : P.underlying t = some (.slice e)) (hi : P.info? e = some i)
    (v : Value) (n c : Nat) (xs : List Value) (hown : w.ownsRow base e size v n xs) : (Builtin.append_ #[t, t] ty #[v, .slice none 0 c]).run P w = .ok v w := by
  rcases hown.2 with ⟨rfl, rfl⟩ | ⟨g, cap, cur, rfl, _, _, hnc, _⟩
  · simp [Builtin.append_, run_underlying ht, sizeOf, typeInfo, hi, Builtin.lenOf, Builtin.firstCells]
  · simp [Builtin.append_, run_underlying ht, sizeOf, typeInfo, hi, Builtin.lenOf, Builtin.firstCells, hnc, storeCells]
/-- append of a whole slice behind one of the call's own. -/
theorem wpList_catA {P : Program} {t e sz bytes : Nat} (F : AppFacts P t e sz bytes) {ops : Array Oper} {rest : List Oper} {o : Oper} {a : Act} {Q : Exit → Act → World → Prop} (hgd : o.guard = none) (s x : Operand)
    (ho : o.op = .call { callee := .builtin .append, args := #[s, x], argTypes := #[t, t] }) {α : Type} (enc : α → List Value) (he : ∀ x, (enc x).length = sz) (Wb : World) {lo : Nat} {w : World} (ys : List α) (l : List α) {v vx : Value} (hs : a.eval s = v)
    (hown : Own enc e sz lo w v l) (hE : Ext Wb w) (hlo : Wb.heap.size ≤ lo) (hlo' : lo ≤ w.heap.size) (hx : a.eval x = vx) (hys : SL (RF enc) sz w vx ys)
    (h1 : ∀ u ∈ ys.flatMap enc, u.oneCell' = true) (hb : (l.length + ys.length) * bytes ≤ 140737488355328) (hb' : l.length + ys.length ≤ 9223372036854775807)
    (h : ∀ v' (z1 : Extd Wb), Own enc e sz lo z1.val v' (l ++ ys) → w.grownBy z1.val v.ownBlock → (v'.ownBlock = v.ownBlock ∨ v'.ownBlock = some w.heap.size) → wpList P ops Q rest (a.put o.dst v') z1.val) : wpList P ops Q (o :: rest) a w := by
  obtain ⟨i, z, hi, hz, hsize, hby, hzs⟩ := F.info
  have hown' : w.ownsRow lo e sz v l.length (l.flatMap enc) := hown
  obtain ⟨p, c, rfl, _, hc⟩ := hys.open
  rcases p with _ | ad
  · obtain rfl : ys = [] := by
      cases ys with
      | nil => rfl
      | cons y ys => obtain ⟨_, _, e2, _⟩ := hc 0 y rfl; cases e2
    refine wpList_plain hgd fun K hK => ?_
    have hrun := run_append_none (P := P) (w := w) lo t o.type e i sz F.und hi v l.length c _ hown'
    unfold Oper.wp
    simp [execOp, ho, resolve, invoke, builtin, hs, hx, hrun, Result.andThen]
    refine hK _ _ (h v ⟨w, hE⟩ (by rw [List.append_nil]; exact hown) ⟨rfl, rfl, rfl, Nat.le_refl _, fun _ _ _ => rfl⟩ (.inl rfl))
  · refine wpList_append_own_at _ hgd s x t ho lo e i z sz bytes F.und hi hz hsize hby hzs F.pos v l.length (l.flatMap enc) hs hown' ad ys.length c (ys.flatMap enc) hx (flatMap_length he ys) (fun j u hu => ?_) h1 (by simpa [maxLen] using hb') hb hlo' ?_
    · have hj := (List.getElem?_eq_some_iff.1 hu).1
      have h0 : 0 < ys.length := by
        cases ys with
        | nil => simp at hj
        | cons y ys => simp
      obtain ⟨y, hy⟩ := getElem?_some_of_lt (l := ys) (k := 0) h0
      obtain ⟨b, off, e2, _⟩ := hc 0 y hy
      cases e2
      have e1 : (⟨b, off, none⟩ : Addr).add j = ⟨b, off + j, none⟩ := by unfold Addr.add; split <;> simp_all
      rw [e1]
      exact SL.flatC he hys j u hu
    · intro v' w1 hown1 hg1 _ hblk
      refine h v' ⟨w1, hE.grown hg1 fun k hk => Nat.le_trans hlo (World.ownsRow.lt hown' k hk).1⟩ ?_ hg1 hblk
      show w1.ownsRow _ _ _ _ _ _
      simpa [Own] using hown1
end Go.Proofs.Ytnknamddonjnjaa
namespace Go.Proofs.Ytnknamddonjnjaa
open Go Go.RowKit Go.Proofs

theorem oneTE (ts : List TE) (h : ∀ x ∈ ts, (∃ p n c, x.vr = .slice p n c) ∧ ∃ p n c, x.vw = .slice p n c) : ∀ u ∈ ts.flatMap TE.enc, u.oneCell' = true := by
  intro u hu
  obtain ⟨x, hx, h1⟩ := List.mem_flatMap.1 hu
  obtain ⟨⟨p, n, c, e1⟩, ⟨p', n', c', e2⟩⟩ := h x hx
  simp only [TE.enc, e1, e2, List.mem_cons, List.not_mem_nil, or_false] at h1
  rcases h1 with rfl | rfl | rfl <;> rfl
theorem putAll_le {s u : List Ent} (hs : entsOk 1 s = true) (hu : entsOk 0 u = true) (k : Nat) : (putAll s (u.take k)).length ≤ 32 := by
  have hv : valsIn (valsOf s) := valsOf_in (entsOk_least (by decide) hs)
  rw [← storeOf_valsOf hs, putAll_store hv (fun e he => by have := entsOk_mem hu (List.mem_of_mem_take he); omega)]
  exact storeOf_le _
set_option maxRecDepth 100000 in
set_option maxHeartbeats 1000000 in
theorem sPutValue_yes (l : List Ent) (v : Value) (key val : Int) (w : World) (h : SL (RF Ent.enc) 2 w v l) (hok : entsOk 1 l = true) (k0 : 0 ≤ key) (k1 : key ≤ 31) (v0 : 0 ≤ val) (v1 : val ≤ 1000000) :
    Calls Try.prog 64 #[v, .int .i64 key, .int .i64 val] w fun e w' => ∃ v', e = .returned (.tuple #[v', .bool true]) ∧ Up w w' ∧ Own Ent.enc 59 2 w.heap.size w' v' (putF (decide (val = 0)) key val l) := by
  have H := Lib.hid h
  obtain ⟨p, c, rfl, _, _⟩ := h.openc
  have hlen := entsOk_len hok
  have kv := fun w (h : SL (RF Ent.enc) 2 w (.slice p l.length c) l) => sStoreValid_any l _ w h
  simp only [hok] at kv
  have kk := fun w => l1In_any key 0 31 w
  simp only [inR_iff.2 ⟨k0, k1⟩] at kk
  have kw := fun w => l1In_any val 0 1000000 w
  simp only [inR_iff.2 ⟨v0, v1⟩] at kw
  clear h
  go_enter Try.func64, Try.ntmps64
  go_wp2_with (first | (go_at_call 20; refine (kv _ (H.out.up (by repeat (first | (with_reducible exact Ext.refl _) | (with_reducible refine Ext.up ?_ _) | (with_reducible refine Ext.alloc ?_ _) | (with_reducible refine Ext.drew ?_) | (with_reducible refine Ext.setRow ?_ (by first | exact LeS.le | exact LeS.add _ | (simp; done) | (simp; omega)) _) | (with_reducible refine Ext.setCell ?_ (by first | exact LeS.le | exact LeS.add _ | (simp; done) | (simp; omega)) _))))).mono ?_; rintro e w' ⟨rfl, z1, rfl⟩) | (go_at_call 49; (with_reducible refine (kk _).mono ?_); rintro e w' ⟨rfl, rfl⟩) | (go_at_call 49; (with_reducible refine (kw _).mono ?_); rintro e w' ⟨rfl, rfl⟩))
  refine (l2Put_any l _ key val _ (H.out.up (by repeat (first | (with_reducible exact Ext.refl _) | (with_reducible refine Ext.up ?_ _) | (with_reducible refine Ext.alloc ?_ _) | (with_reducible refine Ext.drew ?_) | (with_reducible refine Ext.setRow ?_ (by first | exact LeS.le | exact LeS.add _ | (simp; done) | (simp; omega)) _) | (with_reducible refine Ext.setCell ?_ (by first | exact LeS.le | exact LeS.add _ | (simp; done) | (simp; omega)) _)))) (by omega)).mono ?_; rintro e w' ⟨v', rfl, ⟨z2, rfl⟩, hown⟩
  go_wp2_with fail
  refine bodyPost_ret (v := .tuple #[v', .bool true]) (by simp [results, Try.results64, go_sem]) rfl ?_
  exact ⟨_, rfl, (.of (by repeat (first | (with_reducible exact Ext.refl _) | (with_reducible refine Ext.up ?_ _) | (with_reducible refine Ext.alloc ?_ _) | (with_reducible refine Ext.drew ?_) | (with_reducible refine Ext.setRow ?_ (by first | exact LeS.le | exact LeS.add _ | (simp; done) | (simp; omega)) _) | (with_reducible refine Ext.setCell ?_ (by first | exact LeS.le | exact LeS.add _ | (simp; done) | (simp; omega)) _)))), hown.lo LeS.le⟩
end Go.Proofs.Ytnknamddonjnjaa
