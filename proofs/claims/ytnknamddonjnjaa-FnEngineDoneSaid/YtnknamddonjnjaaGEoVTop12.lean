/- Walks: what an action does, on the reference's side. -/
import Derived.Test.YtnknamddonjnjaaGEoVTop09
set_option linter.unusedSimpArgs false
set_option linter.unusedVariables false
namespace Go.Proofs.Ytnknamddonjnjaa
open Go Go.RowKit Go.Proofs

set_option maxRecDepth 100000 in
set_option maxHeartbeats 10000000 in
theorem l6Run_a (x : Actn) (f t : Int) (w : World) (hx : x.ok = true) (hkd : x.kind ≠ 2) (f0 : 0 ≤ f) (f1 : f ≤ 1000000) (t0 : 0 ≤ t) (t1 : t ≤ 1000000) :
    Calls Try.prog 52 #[.agg #[.int .i64 x.kind, .int .i64 x.src, .int .i64 x.dst, .int .i64 x.amt], .int .i64 f, .int .i64 t] w fun e w' => ∃ vr vw, e = .returned (.agg #[.bool (runE x f t).d, vr, vw]) ∧ Up w w' ∧ Own Ent.enc 59 2 w.heap.size w' vr (runE x f t).r ∧ Own Ent.enc 59 2 w.heap.size w' vw (runE x f t).w ∧ Apart vr vw := by
  have Hok := Lib.hid hx
  have kr := fun w => sReads_any x w
  rw [hx, if_pos rfl] at kr
  clear hx
  have Hkd := Lib.hid hkd; clear hkd
  go_enter Try.func52, Try.ntmps52
  go_wp2_with fail
  refine (kr _).mono ?_; rintro e w' ⟨vk, rfl, ⟨z1, rfl⟩, ok⟩
  clear kr
  obtain ⟨pk, ck, rfl, hkl, hkc⟩ := (ok.sl encI_length).open
  have Hg := Lib.hid (show ∀ g o, pk = some ⟨g, o, none⟩ → w.heap.size + 1 + 1 < g from fun g o e => by subst e; have := (World.ownsRow.lt ok g rfl).1; simp at this; omega)
  have Hk := Lib.hid hkc; clear hkc ok
  have hrl := Actn.rk_le x
  go_wp2_with fail
  have hE2 : Ext w z1.val := (by repeat (first | (with_reducible exact Ext.refl _) | (with_reducible refine Ext.up ?_ _) | (with_reducible refine Ext.alloc ?_ _) | (with_reducible refine Ext.drew ?_) | (with_reducible refine Ext.setRow ?_ (by first | exact LeS.le | exact LeS.add _ | (simp; done) | (simp; omega)) _) | (with_reducible refine Ext.setCell ?_ (by first | exact LeS.le | exact LeS.add _ | (simp; done) | (simp; omega)) _)))
  have hsz : w.heap.size + 1 + 1 < z1.val.heap.size := by have := z1.ext.size; simp at this; omega
  have d0 : z1.val.cell? ⟨w.heap.size, 0, none⟩ = some (.int .i64 x.kind) := by go_simp
  have d1 : z1.val.cell? ⟨w.heap.size, 1, none⟩ = some (.int .i64 x.src) := by go_simp
  have d2 : z1.val.cell? ⟨w.heap.size, 2, none⟩ = some (.int .i64 x.dst) := by go_simp
  have d3 : z1.val.cell? ⟨w.heap.size, 3, none⟩ = some (.int .i64 x.amt) := by go_simp
  have r6 : z1.val.heap[w.heap.size + 1]? = some (.cells #[.bool false, .slice none 0 0, .slice none 0 0] 37 (0, 0)) := (Extd.row z1 _).trans (row3 _ _ _ _).2
  have r7 : z1.val.heap[w.heap.size + 1 + 1]? = some (.cells #[.bool true, .slice none 0 0, .slice none 0 0] 37 (0, 0)) := (Extd.row z1 _).trans (row3 _ _ _ _).1
  generalize z1.val = W2 at *
  have hL3 : LtS w.heap.size W2 := ⟨by omega⟩
  have hL6 : LtS (w.heap.size + 1) W2 := ⟨by omega⟩
  have hL7 : LtS (w.heap.size + 1 + 1) W2 := ⟨by omega⟩
  have hN3 : NeS w.heap.size (w.heap.size + 1 + 1) := ⟨by omega⟩
  have hN6 : NeS (w.heap.size + 1) (w.heap.size + 1 + 1) := ⟨by omega⟩
  go_loopw [9] (fun s9 wr => ∃ (k : Nat) (vr : Value), s9 = .int .i64 k ∧ k ≤ x.rk.length ∧ (∃ z : ExtR (w.heap.size + 1 + 1) W2, wr = z.val) ∧ wr.heap[w.heap.size + 1 + 1]? = some (.cells #[.bool true, vr, .slice none 0 0] 37 (0, 0)) ∧ Own Ent.enc 59 2 W2.heap.size wr vr ((x.rds f t).take k)) (fun s9 _ => x.rk.length - (intOf s9).toNat)
  case atStart => exact ⟨0, _, rfl, Nat.zero_le _, ⟨⟨W2, grownBy_refl _ _⟩, rfl⟩, r7, Own.nil _ _ _ _ _⟩
  case round =>
    obtain ⟨k, vr, rfl, hk, ⟨z, rfl⟩, hr7, hown⟩ := hrel
    have hlk : ((x.rds f t).take k).length = k := by rw [List.length_take, rds_len]; omega
    obtain ⟨pr, cr, hvr, _, _⟩ := (hown.sl Ent.enc_length).openc
    rw [hlk] at hvr
    subst hvr
    have Hlk := Lib.hid hlk; clear hlk
    have Hown := Lib.hid hown; have H7 := Lib.hid hr7
    have hLz7 : LtS (w.heap.size + 1 + 1) z.val := inferInstance
    have c70 : z.val.cell? ⟨w.heap.size + 1 + 1, 0, none⟩ = some (.bool true) := cell_of_row _ _ 0 _ _ _ hr7
    have c71 : z.val.cell? ⟨w.heap.size + 1 + 1, 1, none⟩ = some (.slice pr k cr) := cell_of_row _ _ 1 _ _ _ hr7
    have c72 : z.val.cell? ⟨w.heap.size + 1 + 1, 2, none⟩ = some (.slice none 0 0) := cell_of_row _ _ 2 _ _ _ hr7
    have f70 : z.val.frozen? ⟨w.heap.size + 1 + 1, 0, none⟩ = false := frozen_of_row _ _ 0 _ _ hr7
    have f71 : z.val.frozen? ⟨w.heap.size + 1 + 1, 1, none⟩ = false := frozen_of_row _ _ 1 _ _ hr7
    have f72 : z.val.frozen? ⟨w.heap.size + 1 + 1, 2, none⟩ = false := frozen_of_row _ _ 2 _ _ hr7
    have hEz : Ext w z.val := hE2.upR (by omega) z
    clear hown hr7
    by_cases hlt : k < x.rk.length
    · obtain ⟨key, hkk⟩ := getElem?_some_of_lt hlt
      obtain ⟨gk, offk, rfl, hLk, hcc⟩ := Hk.out k key hkk
      have hgn := Hg.out gk offk rfl
      have hNk : NeS gk (w.heap.size + 1 + 1) := ⟨by omega⟩
      have ck0 : W2.cell? ⟨gk, offk + k, none⟩ = some (.int .i64 key) := by have := hcc 0 _ rfl; simpa using this
      have ck : z.val.cell? ⟨gk, offk + k, none⟩ = some (.int .i64 key) := (z.cell _ _).trans ck0
      have Hkk := Lib.hid hkk
      have hl2 : ((x.rds f t).take k).length ≤ 2 := by rw [List.length_take, rds_len]; omega
      clear hcc hkk
      rcases ne_cases key x.src with ⟨h2, h2'⟩ | ⟨h2, h2'⟩
      · go_wp2_with fail
        (refine wp_region_up (by kernel_rfl) (by kernel_rfl) ?_; (repeat (go_big_quiet_step (fail))); refine wpQuiet_nil ?_; intro _ hw'; obtain ⟨zq, hw''⟩ := hw'; subst hw'')
        go_wp2_with fail
        go_region_law (refine step_pushG fEnt (by rfl) (.tmp 30) (.tmp 37) (by rfl) Ent.enc Ent.enc_length w (lo := W2.heap.size) [⟨key, t⟩] ((x.rds f t).take k) (by rfl) (by rfl) (heap_alloc_new _ _) (Hown.out.up (by repeat (first | exact Ext.refl _ | refine Ext.up ?_ _ | refine Ext.alloc ?_ _ | refine Ext.drew ?_ | refine Ext.setRow ?_ (by first | (dsimp only; omega) | exact LeS.le | exact LeS.add _ | (simp; done) | (simp; omega)) _ | refine Ext.setCell ?_ (by first | (dsimp only; omega) | exact LeS.le | exact LeS.add _ | (simp; done) | (simp; omega)) _))) (Ext.drew (Ext.alloc (Ext.up hEz zq) _)) (by omega) LeS.le (by rfl) (by decide) (by rfl) (oneEs' _) (by rw [Hlk.out]; simp; omega) (by rw [Hlk.out]; simp; omega) ?_; intro v7 z7 o7 g7 b7; obtain ⟨R7, G7⟩ := keepRow (GB.up z.grown zq) (Hown.out.up zq.ext) (by omega) (Nat.le_refl _) ((zq.row _).trans H7.out) g7; obtain ⟨p7, c7, hv7, _, _⟩ := (o7.sl Ent.enc_length).openc; rw [List.length_append, Hlk.out] at hv7; rw [show k + [(⟨key, t⟩ : Ent)].length = k + 1 from rfl] at hv7; subst hv7; have e71 := cell_of_row _ _ 1 _ _ _ R7; have e7f := frozen_of_row _ _ 1 _ _ R7; have O7 := Lib.hid o7; have HR7 := Lib.hid R7; have HG7 := Lib.hid G7; clear o7 R7 G7 g7 b7)
        all_goals
          go_wp2_with fail
          go_roundw
          case rel =>
            refine ⟨k + 1, _, by go_num, by omega, ExtR.of (grownBy_trans HG7.out (grownBy_set _ _ _)), (heap_setCell_same _ _ 1 _ _ _ HR7.out).trans rfl, ?_⟩
            refine Own.setLo ?_ (by omega)
            rw [rds_take Hkk.out]
            simpa [h2] using O7.out
          case measure => simp [intOf]; omega
      · have H2 := Lib.hid h2; clear h2
        go_wp2_with fail
        (refine wp_region_up (by kernel_rfl) (by kernel_rfl) ?_; (repeat (go_big_quiet_step (fail))); refine wpQuiet_nil ?_; intro _ hw'; obtain ⟨zq, hw''⟩ := hw'; subst hw'')
        go_wp2_with fail
        go_region_law (refine step_pushG fEnt (by rfl) (.tmp 30) (.tmp 37) (by rfl) Ent.enc Ent.enc_length w (lo := W2.heap.size) [⟨key, f⟩] ((x.rds f t).take k) (by rfl) (by rfl) (heap_alloc_new _ _) (Hown.out.up (by repeat (first | exact Ext.refl _ | refine Ext.up ?_ _ | refine Ext.alloc ?_ _ | refine Ext.drew ?_ | refine Ext.setRow ?_ (by first | (dsimp only; omega) | exact LeS.le | exact LeS.add _ | (simp; done) | (simp; omega)) _ | refine Ext.setCell ?_ (by first | (dsimp only; omega) | exact LeS.le | exact LeS.add _ | (simp; done) | (simp; omega)) _))) (Ext.drew (Ext.alloc (Ext.up hEz zq) _)) (by omega) LeS.le (by rfl) (by decide) (by rfl) (oneEs' _) (by rw [Hlk.out]; simp; omega) (by rw [Hlk.out]; simp; omega) ?_; intro v7 z7 o7 g7 b7; obtain ⟨R7, G7⟩ := keepRow (GB.up z.grown zq) (Hown.out.up zq.ext) (by omega) (Nat.le_refl _) ((zq.row _).trans H7.out) g7; obtain ⟨p7, c7, hv7, _, _⟩ := (o7.sl Ent.enc_length).openc; rw [List.length_append, Hlk.out] at hv7; rw [show k + [(⟨key, f⟩ : Ent)].length = k + 1 from rfl] at hv7; subst hv7; have e71 := cell_of_row _ _ 1 _ _ _ R7; have e7f := frozen_of_row _ _ 1 _ _ R7; have O7 := Lib.hid o7; have HR7 := Lib.hid R7; have HG7 := Lib.hid G7; clear o7 R7 G7 g7 b7)
        all_goals
          go_wp2_with fail
          go_roundw
          case rel =>
            refine ⟨k + 1, _, by go_num, by omega, ExtR.of (grownBy_trans HG7.out (grownBy_set _ _ _)), (heap_setCell_same _ _ 1 _ _ _ HR7.out).trans rfl, ?_⟩
            refine Own.setLo ?_ (by omega)
            rw [rds_take Hkk.out]
            simpa [H2.out] using O7.out
          case measure => simp [intOf]; omega
    · obtain rfl : k = x.rk.length := by omega
      have hR : (x.rds f t).take x.rk.length = x.rds f t := by rw [← rds_len x f t, List.take_length]
      rw [hR] at Hown
      clear hR Hlk
      have q6 : z.val.heap[w.heap.size + 1]? = some (.cells #[.bool false, .slice none 0 0, .slice none 0 0] 37 (0, 0)) := (z.block hL6.lt hN6.ne).trans r6
      have c60 : z.val.cell? ⟨w.heap.size + 1, 0, none⟩ = some (.bool false) := cell_of_row _ _ 0 _ _ _ q6
      have c61 : z.val.cell? ⟨w.heap.size + 1, 1, none⟩ = some (.slice none 0 0) := cell_of_row _ _ 1 _ _ _ q6
      have c62 : z.val.cell? ⟨w.heap.size + 1, 2, none⟩ = some (.slice none 0 0) := cell_of_row _ _ 2 _ _ _ q6
      have f60 := frozen_of_row _ _ 0 _ _ q6
      have f61 := frozen_of_row _ _ 1 _ _ q6
      have f62 := frozen_of_row _ _ 2 _ _ q6
      have c30 : z.val.cell? ⟨w.heap.size, 0, none⟩ = some (.int .i64 x.kind) := (z.cell _ _).trans d0
      have c31 : z.val.cell? ⟨w.heap.size, 1, none⟩ = some (.int .i64 x.src) := (z.cell _ _).trans d1
      have c32 : z.val.cell? ⟨w.heap.size, 2, none⟩ = some (.int .i64 x.dst) := (z.cell _ _).trans d2
      have c33 : z.val.cell? ⟨w.heap.size, 3, none⟩ = some (.int .i64 x.amt) := (z.cell _ _).trans d3
      have hsz2 : W2.heap.size ≤ z.val.heap.size := z.grown.size
      have hLz3 : LtS w.heap.size z.val := inferInstance
      have hLz6 : LtS (w.heap.size + 1) z.val := inferInstance
      clear H7 q6 r6 r7 d0 d1 d2 d3 Hk Hg
      generalize z.val = W9 at *
      clear z hN3 hN6
      obtain ⟨z9, rfl⟩ := Up.of hEz
      generalize hn9 : x.rk.length = n9 at *
      clear hn9 hrl hk hlt hkl
      obtain ⟨kd, a, b, m⟩ := x
      dsimp only at c30 c31 c32 c33
      have hxo := Hok.out
      simp only [Actn.ok, Bool.and_eq_true, inR_iff] at hxo
      obtain ⟨⟨a0, a1⟩, ⟨b0, b1⟩, ⟨m0, m1⟩, hko⟩ := hxo
      have Hko := Lib.hid hko
      clear hko Hok
      have hkd : kd ≠ 2 := Hkd.out
      clear Hkd
      rcases kinds kd with rfl | rfl | rfl | rfl | rfl | rfl | ⟨n1, n2, n3, n4, n5, n6⟩
      · have hv : runE ⟨1, a, b, m⟩ f t = ⟨true, Actn.rds ⟨1, a, b, m⟩ f t, [⟨a, m⟩]⟩ := by simp [runE, Actn.don, Actn.wrs]
        have Hv := Lib.hid hv; clear hv
        go_wp2_with fail
        refine bodyPost_ret (v := .agg #[.bool true, .slice pr n9 cr, .slice (some ⟨z9.val.heap.size, 0, none⟩) 1 1]) (by simp [results, Try.results52, go_sem, c60, c61, c62]) rfl ?_
        rw [Hv.out]
        refine ⟨_, _, rfl, (.of (by repeat (first | (with_reducible exact Ext.refl _) | (with_reducible refine Ext.up ?_ _) | (with_reducible refine Ext.alloc ?_ _) | (with_reducible refine Ext.drew ?_) | (with_reducible refine Ext.setRow ?_ (by first | exact LeS.le | exact LeS.add _ | (simp; done) | (simp; omega)) _) | (with_reducible refine Ext.setCell ?_ (by first | exact LeS.le | exact LeS.add _ | (simp; done) | (simp; omega)) _)))), (by refine Own.lo (lo := W2.heap.size) ?_ (by omega); (repeat (first | (with_reducible exact Hown.out) | (with_reducible refine Own.setLo ?_ (by omega)) | (with_reducible refine Own.alloc ?_) | (with_reducible refine Own.up ?_ (Extd.ext _)) | (exact Hown.out)))), (by refine Own.lo (lo := W2.heap.size) ?_ (by omega); (repeat (with_reducible refine Own.setLo ?_ (by omega))); exact Own.lit (by simp) (by first | omega | (simp; omega)) rfl rfl Ent.enc_length (by simp)), (Apart.lit Hown.out (Nat.le_refl _))⟩
      · exact absurd rfl hkd
      · have hv : runE ⟨3, a, b, m⟩ f t = ⟨true, Actn.rds ⟨3, a, b, m⟩ f t, [⟨b, f⟩]⟩ := by simp [runE, Actn.don, Actn.wrs]
        have Hv := Lib.hid hv; clear hv
        go_wp2_with fail
        refine bodyPost_ret (v := .agg #[.bool true, .slice pr n9 cr, .slice (some ⟨z9.val.heap.size, 0, none⟩) 1 1]) (by simp [results, Try.results52, go_sem, c60, c61, c62]) rfl ?_
        rw [Hv.out]
        refine ⟨_, _, rfl, (.of (by repeat (first | (with_reducible exact Ext.refl _) | (with_reducible refine Ext.up ?_ _) | (with_reducible refine Ext.alloc ?_ _) | (with_reducible refine Ext.drew ?_) | (with_reducible refine Ext.setRow ?_ (by first | exact LeS.le | exact LeS.add _ | (simp; done) | (simp; omega)) _) | (with_reducible refine Ext.setCell ?_ (by first | exact LeS.le | exact LeS.add _ | (simp; done) | (simp; omega)) _)))), (by refine Own.lo (lo := W2.heap.size) ?_ (by omega); (repeat (first | (with_reducible exact Hown.out) | (with_reducible refine Own.setLo ?_ (by omega)) | (with_reducible refine Own.alloc ?_) | (with_reducible refine Own.up ?_ (Extd.ext _)) | (exact Hown.out)))), (by refine Own.lo (lo := W2.heap.size) ?_ (by omega); (repeat (with_reducible refine Own.setLo ?_ (by omega))); exact Own.lit (by simp) (by first | omega | (simp; omega)) rfl rfl Ent.enc_length (by simp)), (Apart.lit Hown.out (Nat.le_refl _))⟩
      · have hv : runE ⟨4, a, b, m⟩ f t = ⟨true, Actn.rds ⟨4, a, b, m⟩ f t, if a = b then [⟨b, f⟩] else sort2 ⟨a, t⟩ ⟨b, f⟩⟩ := by simp [runE, Actn.don, Actn.wrs]
        have Hv := Lib.hid hv; clear hv
        go_wp2_with fail
        refine (l4Put_any [⟨a, t⟩] _ b (f) _ (Own.sl Ent.enc_length (Own.lit (lo := w.heap.size) (by simp) (by first | omega | (simp; omega)) rfl rfl Ent.enc_length (by simp))) (by simp)).mono ?_; rintro e w' ⟨vw, rfl, ⟨z8, rfl⟩, ow⟩
        have AP := Lib.hid (Apart.of_lt Hown.out ow (by simp [setCell_sz]))
        rw [put_one] at ow
        obtain ⟨pw, nw, cw, rfl⟩ : ∃ p n c, vw = .slice p n c := by obtain ⟨p, c, h, _⟩ := (ow.sl Ent.enc_length).openc; exact ⟨p, _, c, h⟩
        have OW := Lib.hid (ow.lo (lo' := W2.heap.size) (by simp [setCell_sz]; omega)); clear ow
        have hsz8 := z8.ext.size
        simp [setCell_sz] at hsz8
        go_wp2_with fail
        refine bodyPost_ret (v := .agg #[.bool true, .slice pr n9 cr, .slice pw nw cw]) (by simp [results, Try.results52, go_sem, c60, c61, c62]) rfl ?_
        rw [Hv.out]
        refine ⟨_, _, rfl, (.of (by repeat (first | (with_reducible exact Ext.refl _) | (with_reducible refine Ext.up ?_ _) | (with_reducible refine Ext.alloc ?_ _) | (with_reducible refine Ext.drew ?_) | (with_reducible refine Ext.setRow ?_ (by first | exact LeS.le | exact LeS.add _ | (simp; done) | (simp; omega)) _) | (with_reducible refine Ext.setCell ?_ (by first | exact LeS.le | exact LeS.add _ | (simp; done) | (simp; omega)) _)))), (by refine Own.lo (lo := W2.heap.size) ?_ (by omega); (repeat (first | (with_reducible exact Hown.out) | (with_reducible refine Own.setLo ?_ (by omega)) | (with_reducible refine Own.alloc ?_) | (with_reducible refine Own.up ?_ (Extd.ext _)) | (exact Hown.out)))), (by refine Own.lo (lo := W2.heap.size) ?_ (by omega); (repeat (first | (with_reducible exact OW.out) | (with_reducible refine Own.setLo ?_ (by omega)) | (with_reducible refine Own.alloc ?_) | (with_reducible refine Own.up ?_ (Extd.ext _)) | (exact OW.out)))), AP.out⟩
      · by_cases hs : f + t ≤ 1000000
        · have hs' : decide (f + t ≤ 1000000) = true := by simpa using hs
          have hv : runE ⟨5, a, b, m⟩ f t = ⟨true, Actn.rds ⟨5, a, b, m⟩ f t, [⟨b, f + t⟩]⟩ := by simp [runE, Actn.don, Actn.wrs, hs]
          have Hv := Lib.hid hv; clear hv
          go_wp2_with fail
          refine bodyPost_ret (v := .agg #[.bool true, .slice pr n9 cr, .slice (some ⟨z9.val.heap.size, 0, none⟩) 1 1]) (by simp [results, Try.results52, go_sem, c60, c61, c62]) rfl ?_
          rw [Hv.out]
          refine ⟨_, _, rfl, (.of (by repeat (first | (with_reducible exact Ext.refl _) | (with_reducible refine Ext.up ?_ _) | (with_reducible refine Ext.alloc ?_ _) | (with_reducible refine Ext.drew ?_) | (with_reducible refine Ext.setRow ?_ (by first | exact LeS.le | exact LeS.add _ | (simp; done) | (simp; omega)) _) | (with_reducible refine Ext.setCell ?_ (by first | exact LeS.le | exact LeS.add _ | (simp; done) | (simp; omega)) _)))), (by refine Own.lo (lo := W2.heap.size) ?_ (by omega); (repeat (first | (with_reducible exact Hown.out) | (with_reducible refine Own.setLo ?_ (by omega)) | (with_reducible refine Own.alloc ?_) | (with_reducible refine Own.up ?_ (Extd.ext _)) | (exact Hown.out)))), (by refine Own.lo (lo := W2.heap.size) ?_ (by omega); (repeat (with_reducible refine Own.setLo ?_ (by omega))); exact Own.lit (by simp) (by first | omega | (simp; omega)) rfl rfl Ent.enc_length (by simp)), (Apart.lit Hown.out (Nat.le_refl _))⟩
        · have hs' : decide (f + t ≤ 1000000) = false := by simpa using hs
          have hv : runE ⟨5, a, b, m⟩ f t = ⟨false, Actn.rds ⟨5, a, b, m⟩ f t, []⟩ := by simp [runE, Actn.don, Actn.wrs, hs]
          have Hv := Lib.hid hv; clear hv
          go_upto_region 27 with (fail)
          refine wp_named ?_; intro W0 hW0
          replace c70 : W0.cell? ⟨w.heap.size + 1 + 1, 0, none⟩ = some (.bool false) := by rw [hW0]; go_simp
          replace c71 : W0.cell? ⟨w.heap.size + 1 + 1, 1, none⟩ = some (.slice pr n9 cr) := by rw [hW0]; go_simp
          replace c72 : W0.cell? ⟨w.heap.size + 1 + 1, 2, none⟩ = some (.slice (some ⟨z9.val.heap.size, 0, none⟩) 1 1) := by rw [hW0]; go_simp
          replace f70 : W0.frozen? ⟨w.heap.size + 1 + 1, 0, none⟩ = false := by rw [hW0]; go_simp
          replace f71 : W0.frozen? ⟨w.heap.size + 1 + 1, 1, none⟩ = false := by rw [hW0]; go_simp
          replace f72 : W0.frozen? ⟨w.heap.size + 1 + 1, 2, none⟩ = false := by rw [hW0]; go_simp
          replace c60 : W0.cell? ⟨w.heap.size + 1, 0, none⟩ = some (.bool false) := by rw [hW0]; go_simp
          replace c61 : W0.cell? ⟨w.heap.size + 1, 1, none⟩ = some (.slice none 0 0) := by rw [hW0]; go_simp
          replace c62 : W0.cell? ⟨w.heap.size + 1, 2, none⟩ = some (.slice none 0 0) := by rw [hW0]; go_simp
          replace f60 : W0.frozen? ⟨w.heap.size + 1, 0, none⟩ = false := by rw [hW0]; go_simp
          replace f61 : W0.frozen? ⟨w.heap.size + 1, 1, none⟩ = false := by rw [hW0]; go_simp
          replace f62 : W0.frozen? ⟨w.heap.size + 1, 2, none⟩ = false := by rw [hW0]; go_simp
          replace c31 : W0.cell? ⟨w.heap.size, 1, none⟩ = some (.int .i64 a) := by rw [hW0]; go_simp
          replace c32 : W0.cell? ⟨w.heap.size, 2, none⟩ = some (.int .i64 b) := by rw [hW0]; go_simp
          replace c33 : W0.cell? ⟨w.heap.size, 3, none⟩ = some (.int .i64 m) := by rw [hW0]; go_simp
          replace Hown := Lib.hid (show Own Ent.enc 59 2 W2.heap.size W0 (.slice pr n9 cr) (Actn.rds ⟨5, a, b, m⟩ f t) by rw [hW0]; (repeat (first | (with_reducible exact Hown.out) | (with_reducible refine Own.setLo ?_ (by omega)) | (with_reducible refine Own.alloc ?_) | (with_reducible refine Own.up ?_ (Extd.ext _)))))
          have hE0 : Ext w W0 := by rw [hW0]; (exact (by repeat (first | (with_reducible exact Ext.refl _) | (with_reducible refine Ext.up ?_ _) | (with_reducible refine Ext.alloc ?_ _) | (with_reducible refine Ext.drew ?_) | (with_reducible refine Ext.setRow ?_ (by first | exact LeS.le | exact LeS.add _ | (simp; done) | (simp; omega)) _) | (with_reducible refine Ext.setCell ?_ (by first | exact LeS.le | exact LeS.add _ | (simp; done) | (simp; omega)) _))))
          replace hsz2 : W2.heap.size ≤ W0.heap.size := by rw [hW0]; simp [setCell_sz]; omega
          have hl7 : LtS (w.heap.size + 1 + 1) W0 := ⟨by omega⟩
          have hl6 : LtS (w.heap.size + 1) W0 := ⟨by omega⟩
          have hl3 : LtS w.heap.size W0 := ⟨by omega⟩
          clear hW0
          try clear c30
          try clear hLz7 hLz6 hLz3
          obtain ⟨z9, rfl⟩ := Up.of hE0
          go_wp2_with fail
          refine bodyPost_ret (v := .agg #[.bool false, .slice pr n9 cr, .slice (some ⟨z9.val.heap.size, 0, none⟩) 0 0]) (by simp [results, Try.results52, go_sem, c60, c61, c62]) rfl ?_
          rw [Hv.out]
          refine ⟨_, _, rfl, (.of (by repeat (first | (with_reducible exact Ext.refl _) | (with_reducible refine Ext.up ?_ _) | (with_reducible refine Ext.alloc ?_ _) | (with_reducible refine Ext.drew ?_) | (with_reducible refine Ext.setRow ?_ (by first | exact LeS.le | exact LeS.add _ | (simp; done) | (simp; omega)) _) | (with_reducible refine Ext.setCell ?_ (by first | exact LeS.le | exact LeS.add _ | (simp; done) | (simp; omega)) _)))), (by refine Own.lo (lo := W2.heap.size) ?_ (by omega); (repeat (first | (with_reducible exact Hown.out) | (with_reducible refine Own.setLo ?_ (by omega)) | (with_reducible refine Own.alloc ?_) | (with_reducible refine Own.up ?_ (Extd.ext _)) | (exact Hown.out)))), (by refine Own.lo (lo := W2.heap.size) ?_ (by omega); (repeat (with_reducible refine Own.setLo ?_ (by omega))); exact Own.lit (by simp) (by first | omega | (simp; omega)) rfl rfl Ent.enc_length (by simp)), (Apart.lit Hown.out (Nat.le_refl _))⟩
      · by_cases hs : f ≤ m
        · have hv : runE ⟨6, a, b, m⟩ f t = ⟨true, Actn.rds ⟨6, a, b, m⟩ f t, [⟨a, 0⟩]⟩ := by simp [runE, Actn.don, Actn.wrs]; omega
          have Hv := Lib.hid hv; clear hv
          go_wp2_with fail
          refine bodyPost_ret (v := .agg #[.bool true, .slice pr n9 cr, .slice (some ⟨z9.val.heap.size, 0, none⟩) 1 1]) (by simp [results, Try.results52, go_sem, c60, c61, c62]) rfl ?_
          rw [Hv.out]
          refine ⟨_, _, rfl, (.of (by repeat (first | (with_reducible exact Ext.refl _) | (with_reducible refine Ext.up ?_ _) | (with_reducible refine Ext.alloc ?_ _) | (with_reducible refine Ext.drew ?_) | (with_reducible refine Ext.setRow ?_ (by first | exact LeS.le | exact LeS.add _ | (simp; done) | (simp; omega)) _) | (with_reducible refine Ext.setCell ?_ (by first | exact LeS.le | exact LeS.add _ | (simp; done) | (simp; omega)) _)))), (by refine Own.lo (lo := W2.heap.size) ?_ (by omega); (repeat (first | (with_reducible exact Hown.out) | (with_reducible refine Own.setLo ?_ (by omega)) | (with_reducible refine Own.alloc ?_) | (with_reducible refine Own.up ?_ (Extd.ext _)) | (exact Hown.out)))), (by refine Own.lo (lo := W2.heap.size) ?_ (by omega); (repeat (with_reducible refine Own.setLo ?_ (by omega))); exact Own.lit (by simp) (by first | omega | (simp; omega)) rfl (by first | rfl | (simp [Ent.enc]; omega)) Ent.enc_length (by simp)), (Apart.lit Hown.out (Nat.le_refl _))⟩
        · have hv : runE ⟨6, a, b, m⟩ f t = ⟨true, Actn.rds ⟨6, a, b, m⟩ f t, [⟨a, f - m⟩]⟩ := by simp [runE, Actn.don, Actn.wrs]; omega
          have Hv := Lib.hid hv; clear hv
          go_wp2_with fail
          refine bodyPost_ret (v := .agg #[.bool true, .slice pr n9 cr, .slice (some ⟨z9.val.heap.size, 0, none⟩) 1 1]) (by simp [results, Try.results52, go_sem, c60, c61, c62]) rfl ?_
          rw [Hv.out]
          refine ⟨_, _, rfl, (.of (by repeat (first | (with_reducible exact Ext.refl _) | (with_reducible refine Ext.up ?_ _) | (with_reducible refine Ext.alloc ?_ _) | (with_reducible refine Ext.drew ?_) | (with_reducible refine Ext.setRow ?_ (by first | exact LeS.le | exact LeS.add _ | (simp; done) | (simp; omega)) _) | (with_reducible refine Ext.setCell ?_ (by first | exact LeS.le | exact LeS.add _ | (simp; done) | (simp; omega)) _)))), (by refine Own.lo (lo := W2.heap.size) ?_ (by omega); (repeat (first | (with_reducible exact Hown.out) | (with_reducible refine Own.setLo ?_ (by omega)) | (with_reducible refine Own.alloc ?_) | (with_reducible refine Own.up ?_ (Extd.ext _)) | (exact Hown.out)))), (by refine Own.lo (lo := W2.heap.size) ?_ (by omega); (repeat (with_reducible refine Own.setLo ?_ (by omega))); exact Own.lit (by simp) (by first | omega | (simp; omega)) rfl (by first | rfl | (simp [Ent.enc]; omega)) Ent.enc_length (by simp)), (Apart.lit Hown.out (Nat.le_refl _))⟩
      · exfalso
        have := Hko.out
        unfold kindOk at this
        rw [if_neg (by omega), if_neg (by omega), decide_eq_true_eq] at this
        exact n2 this
end Go.Proofs.Ytnknamddonjnjaa
