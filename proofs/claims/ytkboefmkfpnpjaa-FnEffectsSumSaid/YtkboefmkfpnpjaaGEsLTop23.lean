/- Walks: drawn effects, n at will. -/
import Derived.Test.YtkboefmkfpnpjaaGEsLTop16
import Derived.Test.YtkboefmkfpnpjaaGEsLTop22
set_option linter.unusedSimpArgs false
set_option linter.unusedVariables false
namespace Go.Proofs.Ytkboefmkfpnpjaa
open Go Go.RowKit Go.Proofs

set_option maxRecDepth 100000 in
set_option maxHeartbeats 4000000 in
theorem drawEffect_any (w0 w : World) (rb : Nat) (lim n : Int) (h : Rd w0 w rb lim) (hl : lim ≤ 90000) (hn0 : 0 ≤ n) (hn1 : n ≤ 1000000) :
    Calls Try.prog 94 #[.pointer (some ⟨rb, 0, none⟩), .int .i64 n] w fun e w' => ∃ d vr vw r u, e = .returned (.agg #[.bool d, vr, vw]) ∧ r.length ≤ 10 ∧ u.length ≤ 10 ∧ (∃ z : ExtR rb w, w' = z.val) ∧ Rd w0 w' rb (lim + 200) ∧ Own Ent.enc 31 2 w.heap.size w' vr r ∧ Own Ent.enc 31 2 w.heap.size w' vw u ∧ Apart vr vw := by
  have H := Lib.hid h
  have hL : LtS rb w := ⟨h.lt⟩
  have hlt := h.lt
  have hold := h.old
  have hLew : LeS w0 w := ⟨h.ext.size⟩
  clear h
  go_enter Try.func94, Try.ntmps94
  go_wp2_with fail
  refine (drawStore_any w0 _ rb lim 0 (H.out.up (by repeat (first | (with_reducible exact Ext.refl _) | (with_reducible refine Ext.up ?_ _) | (with_reducible refine Ext.alloc ?_ _) | (with_reducible refine Ext.drew ?_) | (with_reducible refine Ext.setRow ?_ (by first | exact LeS.le | exact LeS.add _ | (simp; done) | (simp; omega)) _) | (with_reducible refine Ext.setCell ?_ (by first | exact LeS.le | exact LeS.add _ | (simp; done) | (simp; omega)) _)))) (by omega) (by omega) (by omega)).mono ?_; rintro e w' ⟨vs, s, rfl, hs33, hs0, ⟨z1, rfl⟩, hr, hown⟩
  have H1 := Lib.hid hr; have HO1 := Lib.hid hown; have hs := hs0 rfl; have Hs := Lib.hid hs
  clear hr hown hs0 hs
  go_wp2_with fail
  refine (action_any w0 _ rb _ 0 H1.out (by omega) (by omega) (by omega)).mono ?_; rintro e w' ⟨x, rfl, hxo, ⟨z2, rfl⟩, hr⟩
  have H2 := Lib.hid hr; have hx := hxo rfl; have Hx := Lib.hid hx
  clear hr hxo hx
  have HO2 := Lib.hid (HO1.out.upR (by simp; omega) z2)
  have hEr := runE_rlen x (atK s x.src) (atK s x.dst)
  have hEw := runE_wlen x (atK s x.src) (atK s x.dst)
  go_wp2_with fail
  refine (sRunAction_yes s x vs _ (HO2.out.sl Ent.enc_length) Hs.out Hx.out).mono ?_; rintro e w' ⟨vr, vw, rfl, ⟨z3, rfl⟩, o1, o2, ap⟩
  generalize runE x (atK s x.src) (atK s x.dst) = E at *
  have hz2 : w.heap.size < z2.val.heap.size := by have h1 := z1.grown.size; have h2 := z2.grown.size; simp at h1; omega
  have hz3 := z3.ext.size
  have u1 := o1.under; have u2 := o2.under
  obtain ⟨p1, c1, rfl, _, _⟩ := (o1.sl Ent.enc_length).openc
  obtain ⟨p2, c2, rfl, _, _⟩ := (o2.sl Ent.enc_length).openc
  have hres : z3.val.heap[w.heap.size]? = some (.cells #[.bool false, .slice none 0 0, .slice none 0 0] 40 (0, 0)) :=
    (z3.ext.block (by omega)).trans ((z2.block (by have h1 := z1.grown.size; simp at h1; omega) (by omega)).trans ((z1.block (by simp) (by omega)).trans (heap_alloc_new _ _)))
  have hgb : w.grownBy z3.val (some rb) := GB.up (GB.upR (GB.upR (GB.alloc (grownBy_refl w _) _) z1) z2) z3
  have HF : FX 40 31 rb z3.val.heap.size z2.val.heap.size w (z3.val.alloc (.cells #[.bool E.d, .slice p1 E.r.length c1, .slice p2 E.w.length c2] 40)) E.d (.slice p1 E.r.length c1) (.slice p2 E.w.length c2) E.r E.w :=
    ⟨GB.alloc hgb _, heap_alloc_new _ _, (heap_alloc_old _ _ (by omega)).trans hres, o1.alloc, o2.alloc, ap, fun e => by have := u1 _ e; omega, fun e => by have := u2 _ e; omega, hlt, by omega, hz2⟩
  have HF := Lib.hid HF
  clear o1 o2 ap u1 u2 hres hgb HO1 HO2 Hs Hx
  have H3 := Lib.hid (H2.out.up z3.ext)
  have hLb3 : LtS rb z3.val := ⟨H3.out.lt⟩
  have hG0 : w.heap.size < z3.val.heap.size := by omega
  have hG1 : w0.heap.size ≤ z2.val.heap.size := by have := H2.out.ext.size; exact this
  go_wp2_with fail
  refine (odd_any w0 _ rb (lim + 150) n (by (refine Rd.mono (a := ?_) ?_ ?_; rotate_left; (repeat (first | (with_reducible exact H3.out) | (with_reducible refine Rd.alloc ?_ _) | (with_reducible refine Rd.set ?_ _ _ NeS.ne (by first | exact LeS.le | exact LeS.add _)))); omega)) (by omega) (by omega) (by omega)).mono ?_; rintro e w' ⟨bo, rfl, -, ⟨z4, rfl⟩, hr⟩
  have HR4 := Lib.hid hr
  clear hr H1 H2 H3
  have HF4 := Lib.hid (HF.out.upR z4)
  have hGn : z3.val.heap.size < z4.val.heap.size := HF4.out.lt
  clear HF
  have hNG : NeS z3.val.heap.size rb := ⟨by have := hLb3.lt; omega⟩
  have hNw : NeS w.heap.size rb := ⟨by omega⟩
  have hNGw : NeS z3.val.heap.size w.heap.size := ⟨by omega⟩
  have hNwG : NeS w.heap.size z3.val.heap.size := ⟨by omega⟩
  generalize z3.val.heap.size = G at *
  go_upto_if 13 with fail
  go_cut [] (fun wr' => ∃ (d : Bool) (pr : Option Addr) (nr cr : Nat) (pw : Option Addr) (nw cw : Nat) (r u : List Ent), FX 40 31 rb G z2.val.heap.size w wr' d (.slice pr nr cr) (.slice pw nw cw) r u ∧ Rd w0 wr' rb (lim + 170) ∧ r.length ≤ 10 ∧ u.length ≤ 10)
  case rest =>
    obtain ⟨d, pr, nr, cr, pw, nw, cw, r, u, HFx, HRx, hr10, hu10⟩ := hcut
    have HFR := Lib.hid HFx; have HRR := Lib.hid HRx
    clear HFx HRx HF4 HR4
    obtain ⟨zR, rfl⟩ := ExtR.of HFR.out.gb
    have t0 : zR.val.cell? ⟨G, 0, none⟩ = some (.bool d) := cell_of_row _ _ 0 _ _ _ HFR.out.box
    have t1 : zR.val.cell? ⟨G, 1, none⟩ = some (.slice pr nr cr) := cell_of_row _ _ 1 _ _ _ HFR.out.box
    have t2 : zR.val.cell? ⟨G, 2, none⟩ = some (.slice pw nw cw) := cell_of_row _ _ 2 _ _ _ HFR.out.box
    have r0 : zR.val.cell? ⟨w.heap.size, 0, none⟩ = some (.bool false) := cell_of_row _ _ 0 _ _ _ HFR.out.res
    have r1 : zR.val.cell? ⟨w.heap.size, 1, none⟩ = some (.slice none 0 0) := cell_of_row _ _ 1 _ _ _ HFR.out.res
    have r2 : zR.val.cell? ⟨w.heap.size, 2, none⟩ = some (.slice none 0 0) := cell_of_row _ _ 2 _ _ _ HFR.out.res
    have rf0 : zR.val.frozen? ⟨w.heap.size, 0, none⟩ = false := frozen_of_row _ _ 0 _ _ HFR.out.res
    have rf1 : zR.val.frozen? ⟨w.heap.size, 1, none⟩ = false := frozen_of_row _ _ 1 _ _ HFR.out.res
    have rf2 : zR.val.frozen? ⟨w.heap.size, 2, none⟩ = false := frozen_of_row _ _ 2 _ _ HFR.out.res
    have hLGR : LtS G zR.val := LtS.of_some t0
    have hLwR : LtS w.heap.size zR.val := LtS.of_some r0
    go_wp2_with fail
    refine bodyPost_ret (v := .agg #[.bool d, (.slice pr nr cr), (.slice pw nw cw)]) (by simp [results, Try.results94, go_sem, r0, r1, r2]) rfl ?_
    refine ⟨_, _, _, r, u, rfl, hr10, hu10, ExtR.of (by repeat (first | (with_reducible exact grownBy_refl _ _) | (with_reducible refine GB.setNew ?_ (by first | exact LeS.le | exact LeS.add _ | (simp; done) | (simp; omega)) _ _) | (with_reducible refine GB.alloc ?_ _) | (with_reducible refine GB.drew ?_) | (with_reducible refine GB.upR ?_ _) | (with_reducible refine GB.up ?_ _))), ?_, ?_, ?_, HFR.out.ap⟩
    · exact (Rd.set (Rd.set (Rd.set HRR.out _ _ (by exact hNw.ne) (by exact hLew.le)) _ _ (by exact hNw.ne) (by exact hLew.le)) _ _ (by exact hNw.ne) (by exact hLew.le)).mono (by omega)
    · refine Own.lo (lo := z2.val.heap.size) ?_ (by omega)
      repeat (first | (with_reducible exact HFR.out.orr) | (with_reducible refine Own.setLo ?_ (by omega)))
    · refine Own.lo (lo := z2.val.heap.size) ?_ (by omega)
      repeat (first | (with_reducible exact HFR.out.oww) | (with_reducible refine Own.setLo ?_ (by omega)))
  case first =>
  rcases bo with _ | _
  · go_wp2_with fail
    go_meet
    exact ⟨_, _, _, _, _, _, _, _, _, HF4.out, HR4.out.mono (by omega), by omega, by omega⟩
  go_wp2_with fail
  refine (pick_any w0 _ rb _ 3 HR4.out (by omega) (by omega) (by omega)).mono ?_; rintro e w' ⟨q, rfl, q0, q1, _, ⟨z5, rfl⟩, hr⟩
  have HR5 := Lib.hid (hr.mono (show lim + 150 + 1 + 1 ≤ lim + 160 by omega)); clear hr
  have HF5 := Lib.hid (HF4.out.upR z5)
  have hq := q1 (by omega)
  clear q1 HR4 HF4
  have hGn5 : G < z5.val.heap.size := HF5.out.lt
  have hLG5 : LtS G z5.val := ⟨hGn5⟩
  have hLb5 : LtS rb z5.val := ⟨HR5.out.lt⟩
  have hz25 : z2.val.heap.size ≤ z5.val.heap.size := by omega
  have g0 : z5.val.cell? ⟨G, 0, none⟩ = some (.bool E.d) := cell_of_row _ _ 0 _ _ _ HF5.out.box
  have g1 : z5.val.cell? ⟨G, 1, none⟩ = some (.slice p1 E.r.length c1) := cell_of_row _ _ 1 _ _ _ HF5.out.box
  have g2 : z5.val.cell? ⟨G, 2, none⟩ = some (.slice p2 E.w.length c2) := cell_of_row _ _ 2 _ _ _ HF5.out.box
  have gf0 : z5.val.frozen? ⟨G, 0, none⟩ = false := frozen_of_row _ _ 0 _ _ HF5.out.box
  rcases (show q = 0 ∨ q = 1 ∨ q = 2 by omega) with rfl | rfl | rfl
  · have HFd := Lib.hid (HF5.out.setD (!E.d))
    have HRd := Lib.hid (Rd.set (g := G) HR5.out 0 (.bool (!E.d)) (by have := hNG.ne; omega) (by omega))
    go_wp2_with fail
    go_meet
    exact ⟨_, _, _, _, _, _, _, _, _, HFd.out, HRd.out.mono (by omega), by omega, by omega⟩
  · go_upto_region 8 with fail
    refine wp_region_held_drew (S := (fun _ => True)) (by kernel_rfl) ?_ (fun hHeld => ?_)
    · (try dsimp only)
      all_goals trivial
    refine wpAnyH_take (i := 0) (v := ?_) (opAt rfl) (by kernel_rfl) (by kernel_rfl) (by kernel_rfl) (fun _ _ _ h => h) (Or.inl ⟨by rfl, ?_⟩) (by assumption) ?_
    rotate_left
    · (intro w hSw; (try dsimp only at hSw); go_simp) <;> with_reducible rfl
    try simp only [Act.put, List.setIfInBounds_toArray, List.set_cons_zero, List.set_cons_succ]
    refine wpAnyH_take (i := 3) (v := ?_) (opAt rfl) (by kernel_rfl) (by kernel_rfl) (by kernel_rfl) (fun _ _ _ h => h) (Or.inl ⟨by rfl, ?_⟩) (by assumption) ?_
    rotate_left
    · (intro w hSw; (try dsimp only at hSw); go_simp) <;> with_reducible rfl
    try simp only [Act.put, List.setIfInBounds_toArray, List.set_cons_zero, List.set_cons_succ]
    refine wpAnyH_ready (rs := [1, 2, 4]) (by kernel_rfl) (by simp) ?_
    refine AllReadyH.cons (opAt rfl) (fun K hK => ?_) ?_
    · go_simp
      refine hK.out _ _ ?_ (fun hHeld1 => ?_)
      · (try dsimp only)
        all_goals trivial
      clear hK K hHeld
      have hHeld := hHeld1; clear hHeld1
      try simp only [Act.put, List.setIfInBounds_toArray, List.set_cons_zero, List.set_cons_succ]
      refine wpAnyH_ready (rs := [2, 4]) (by kernel_rfl) (by simp) ?_
      refine AllReadyH.cons (opAt rfl) (fun K hK => ?_) ?_
      · go_simp
        refine hK.out _ _ ?_ (fun hHeld1 => ?_)
        · (try dsimp only)
          all_goals trivial
        clear hK K hHeld
        have hHeld := hHeld1; clear hHeld1
        try simp only [Act.put, List.setIfInBounds_toArray, List.set_cons_zero, List.set_cons_succ]
        refine wpAnyH_ready (rs := [4]) (by kernel_rfl) (by simp) ?_
        refine AllReadyH.cons (opAt rfl) (fun K hK => ?_) ?_
        · go_simp
          (go_at_call 79; (with_reducible refine (pick_any w0 _ rb _ 3 (HR5.out.up (by repeat (first | (with_reducible exact Ext.refl _) | (with_reducible refine Ext.up ?_ _) | (with_reducible refine Ext.alloc ?_ _) | (with_reducible refine Ext.drew ?_) | (with_reducible refine Ext.setRow ?_ (by first | exact LeS.le | exact LeS.add _ | (simp; done) | (simp; omega)) _) | (with_reducible refine Ext.setCell ?_ (by first | exact LeS.le | exact LeS.add _ | (simp; done) | (simp; omega)) _)))) (by omega) (by omega) (by omega)).mono ?_); rintro e w' ⟨q, rfl, q0, q1, _, ⟨z6, rfl⟩, hr⟩; have HR6 := Lib.hid hr; have hq := q1 (by omega); clear hr q1; obtain ⟨j, hj, hj2⟩ : ∃ j : Nat, q = (j : Int) ∧ j < 3 := ⟨q.toNat, by omega, by omega⟩; subst hj; obtain ⟨s, hs⟩ : ∃ s : Int, ∀ h, ([.int .i64 (-1), .int .i64 32, .int .i64 2] : List Value)[j]'h = .int .i64 s := (by rcases (show j = 0 ∨ j = 1 ∨ j = 2 by omega) with rfl | rfl | rfl; exact ⟨-1, fun _ => rfl⟩; exact ⟨32, fun _ => rfl⟩; exact ⟨2, fun _ => rfl⟩))
          try go_wp2_with fail
          refine hK.out _ _ ?_ (fun hHeld1 => ?_)
          · (try dsimp only)
            all_goals trivial
          clear hK K hHeld
          have hHeld := hHeld1; clear hHeld1
          try simp only [Act.put, List.setIfInBounds_toArray, List.set_cons_zero, List.set_cons_succ]
          refine wpAnyH_take (i := 5) (v := ?_) (opAt rfl) (by kernel_rfl) (by kernel_rfl) (by kernel_rfl) (fun _ _ _ h => h) (Or.inl ⟨by rfl, ?_⟩) (by assumption) ?_
          rotate_left
          · (intro w hSw; (try dsimp only at hSw); go_simp) <;> with_reducible rfl
          try simp only [Act.put, List.setIfInBounds_toArray, List.set_cons_zero, List.set_cons_succ]
          refine wpAnyH_ready (rs := [6]) (by kernel_rfl) (by simp) ?_
          refine AllReadyH.cons (opAt rfl) (fun K hK => ?_) ?_
          · go_simp
            refine hK.out _ _ ?_ (fun hHeld1 => ?_)
            · (try dsimp only)
              all_goals trivial
            clear hK K hHeld
            have hHeld := hHeld1; clear hHeld1
            try simp only [Act.put, List.setIfInBounds_toArray, List.set_cons_zero, List.set_cons_succ]
            refine wpAnyH_take (i := 7) (v := ?_) (opAt rfl) (by kernel_rfl) (by kernel_rfl) (by kernel_rfl) (fun _ _ _ h => h) (Or.inl ⟨by rfl, ?_⟩) (by assumption) ?_
            rotate_left
            · (intro w hSw; (try dsimp only at hSw); go_simp) <;> with_reducible rfl
            try simp only [Act.put, List.setIfInBounds_toArray, List.set_cons_zero, List.set_cons_succ]
            refine wpAnyH_ready (rs := [8]) (by kernel_rfl) (by simp) ?_
            refine AllReadyH.cons (opAt rfl) (fun K hK => ?_) ?_
            · go_simp
              refine hK.out _ _ ?_ (fun hHeld1 => ?_)
              · (try dsimp only)
                all_goals trivial
              clear hK K hHeld
              have hHeld := hHeld1; clear hHeld1
              try simp only [Act.put, List.setIfInBounds_toArray, List.set_cons_zero, List.set_cons_succ]
              refine wpAnyH_ready (rs := [9]) (by kernel_rfl) (by simp) ?_
              refine AllReadyH.cons (opAt rfl) (fun K hK => ?_) ?_
              · (refine step_pushG fEnt (by rfl) (.tmp 36) (.tmp 43) (by rfl) Ent.enc Ent.enc_length w0 (lo := z2.val.heap.size) [(⟨s, 3⟩ : Ent)] E.w (by rfl) (by rfl) (heap_alloc_at (by simp)) (FX.oww (T := 40) (eE := 31) (lo := z2.val.heap.size) (rb := rb) (G := G) (w := w) (d := E.d) (vr := .slice p1 E.r.length c1) (vw := .slice p2 E.w.length c2) (r := E.r) (u := E.w)  (by repeat (first | (with_reducible exact HF5.out) | (with_reducible refine FX.upR ?_ _) | (with_reducible refine FX.alloc ?_ _) | (with_reducible refine FX.drew ?_)))) (Rd.ext (rb := rb) (lim := lim + 165) (by (refine Rd.mono (a := ?_) ?_ ?_; rotate_left; (repeat (first | (with_reducible exact HR6.out) | (with_reducible refine Rd.alloc ?_ _) | (with_reducible refine Rd.set ?_ _ _ NeS.ne (by first | exact LeS.le | exact LeS.add _)))); omega))) (by omega) (by first | omega | (have := z6.grown.size; simp at this ⊢; omega)) (by rfl) (by decide) (by rfl) (oneEs' _) (by simp; omega) (by simp; omega) ?_; intro v9 z9 o9 g9 b9; have hl9 := (o9.sl Ent.enc_length).openc; obtain ⟨p9, n9, c9, rfl⟩ : ∃ p n c, v9 = Value.slice p n c := (by obtain ⟨p, c, hv, _, _⟩ := hl9; exact ⟨p, _, c, hv⟩); clear hl9; have HF9 := Lib.hid (FX.addW (T := 40) (eE := 31) (lo := z2.val.heap.size) (rb := rb) (G := G) (w := w) (d := E.d) (vr := .slice p1 E.r.length c1) (vw := .slice p2 E.w.length c2) (r := E.r) (u := E.w)  (by repeat (first | (with_reducible exact HF5.out) | (with_reducible refine FX.upR ?_ _) | (with_reducible refine FX.alloc ?_ _) | (with_reducible refine FX.drew ?_))) g9 o9 b9); have HR9 := Lib.hid (FX.rd (T := 40) (eE := 31) (lo := z2.val.heap.size) (rb := rb) (G := G) (w := w) (d := E.d) (vr := .slice p1 E.r.length c1) (vw := .slice p2 E.w.length c2) (r := E.r) (u := E.w)  (lim := lim + 165) (by repeat (first | (with_reducible exact HF5.out) | (with_reducible refine FX.upR ?_ _) | (with_reducible refine FX.alloc ?_ _) | (with_reducible refine FX.drew ?_))) (by (refine Rd.mono (a := ?_) ?_ ?_; rotate_left; (repeat (first | (with_reducible exact HR6.out) | (with_reducible refine Rd.alloc ?_ _) | (with_reducible refine Rd.set ?_ _ _ NeS.ne (by first | exact LeS.le | exact LeS.add _)))); omega)) (FX.oww (T := 40) (eE := 31) (lo := z2.val.heap.size) (rb := rb) (G := G) (w := w) (d := E.d) (vr := .slice p1 E.r.length c1) (vw := .slice p2 E.w.length c2) (r := E.r) (u := E.w)  (by repeat (first | (with_reducible exact HF5.out) | (with_reducible refine FX.upR ?_ _) | (with_reducible refine FX.alloc ?_ _) | (with_reducible refine FX.drew ?_)))) g9 z9.ext 2 (.slice p9 n9 c9)); have bx := (FX.kept (T := 40) (eE := 31) (lo := z2.val.heap.size) (rb := rb) (G := G) (w := w) (d := E.d) (vr := .slice p1 E.r.length c1) (vw := .slice p2 E.w.length c2) (r := E.r) (u := E.w)  (by repeat (first | (with_reducible exact HF5.out) | (with_reducible refine FX.upR ?_ _) | (with_reducible refine FX.alloc ?_ _) | (with_reducible refine FX.drew ?_))) (FX.oww (T := 40) (eE := 31) (lo := z2.val.heap.size) (rb := rb) (G := G) (w := w) (d := E.d) (vr := .slice p1 E.r.length c1) (vw := .slice p2 E.w.length c2) (r := E.r) (u := E.w)  (by repeat (first | (with_reducible exact HF5.out) | (with_reducible refine FX.upR ?_ _) | (with_reducible refine FX.alloc ?_ _) | (with_reducible refine FX.drew ?_)))) HF5.out.offw g9).2.1; have fG := frozen_of_row _ _ 2 _ _ bx; have cG : z9.val.cell? ⟨G, 2, none⟩ = some (.slice p2 E.w.length c2) := cell_of_row _ _ 2 _ _ _ bx; clear bx; have hLG9 : LtS G z9.val := LtS.of_some cG)
                refine hK.out _ _ ?_ (fun hHeld1 => ?_)
                · (try dsimp only)
                  all_goals trivial
                clear hK K hHeld
                have hHeld := hHeld1; clear hHeld1
                try simp only [Act.put, List.setIfInBounds_toArray, List.set_cons_zero, List.set_cons_succ]
                refine wpAnyH_take (i := 10) (v := ?_) (opAt rfl) (by kernel_rfl) (by kernel_rfl) (by kernel_rfl) (fun _ _ _ h => h) (Or.inl ⟨by rfl, ?_⟩) (by assumption) ?_
                rotate_left
                · (intro w hSw; (try dsimp only at hSw); go_simp) <;> with_reducible rfl
                try simp only [Act.put, List.setIfInBounds_toArray, List.set_cons_zero, List.set_cons_succ]
                refine wpAnyH_ready (rs := [11]) (by kernel_rfl) (by simp) ?_
                refine AllReadyH.cons (opAt rfl) (fun K hK => ?_) ?_
                · go_simp
                  refine hK.out _ _ ?_ (fun hHeld1 => ?_)
                  · (try dsimp only)
                    all_goals trivial
                  clear hK K hHeld
                  have hHeld := hHeld1; clear hHeld1
                  try simp only [Act.put, List.setIfInBounds_toArray, List.set_cons_zero, List.set_cons_succ]
                  refine wpAnyH_done (by kernel_rfl) ?_ _
                  go_wp2_with fail
                  go_meet
                  exact ⟨_, _, _, _, _, _, _, _, _, HF9.out, HR9.out.mono (by omega), by first | omega | (simp; omega), by first | omega | (simp; omega)⟩
                exact AllReadyH.nil
              exact AllReadyH.nil
            exact AllReadyH.nil
          exact AllReadyH.nil
        exact AllReadyH.nil
      refine AllReadyH.cons (opAt rfl) (fun K hK => ?_) ?_
      · go_simp
        (go_at_call 79; (with_reducible refine (pick_any w0 _ rb _ 3 (HR5.out.up (by repeat (first | (with_reducible exact Ext.refl _) | (with_reducible refine Ext.up ?_ _) | (with_reducible refine Ext.alloc ?_ _) | (with_reducible refine Ext.drew ?_) | (with_reducible refine Ext.setRow ?_ (by first | exact LeS.le | exact LeS.add _ | (simp; done) | (simp; omega)) _) | (with_reducible refine Ext.setCell ?_ (by first | exact LeS.le | exact LeS.add _ | (simp; done) | (simp; omega)) _)))) (by omega) (by omega) (by omega)).mono ?_); rintro e w' ⟨q, rfl, q0, q1, _, ⟨z6, rfl⟩, hr⟩; have HR6 := Lib.hid hr; have hq := q1 (by omega); clear hr q1; obtain ⟨j, hj, hj2⟩ : ∃ j : Nat, q = (j : Int) ∧ j < 3 := ⟨q.toNat, by omega, by omega⟩; subst hj; obtain ⟨s, hs⟩ : ∃ s : Int, ∀ h, ([.int .i64 (-1), .int .i64 32, .int .i64 2] : List Value)[j]'h = .int .i64 s := (by rcases (show j = 0 ∨ j = 1 ∨ j = 2 by omega) with rfl | rfl | rfl; exact ⟨-1, fun _ => rfl⟩; exact ⟨32, fun _ => rfl⟩; exact ⟨2, fun _ => rfl⟩))
        try go_wp2_with fail
        refine hK.out _ _ ?_ (fun hHeld1 => ?_)
        · (try dsimp only)
          all_goals trivial
        clear hK K hHeld
        have hHeld := hHeld1; clear hHeld1
        try simp only [Act.put, List.setIfInBounds_toArray, List.set_cons_zero, List.set_cons_succ]
        refine wpAnyH_ready (rs := [2]) (by kernel_rfl) (by simp) ?_
        refine AllReadyH.cons (opAt rfl) (fun K hK => ?_) ?_
        · go_simp
          refine hK.out _ _ ?_ (fun hHeld1 => ?_)
          · (try dsimp only)
            all_goals trivial
          clear hK K hHeld
          have hHeld := hHeld1; clear hHeld1
          try simp only [Act.put, List.setIfInBounds_toArray, List.set_cons_zero, List.set_cons_succ]
          refine wpAnyH_take (i := 5) (v := ?_) (opAt rfl) (by kernel_rfl) (by kernel_rfl) (by kernel_rfl) (fun _ _ _ h => h) (Or.inl ⟨by rfl, ?_⟩) (by assumption) ?_
          rotate_left
          · (intro w hSw; (try dsimp only at hSw); go_simp) <;> with_reducible rfl
          try simp only [Act.put, List.setIfInBounds_toArray, List.set_cons_zero, List.set_cons_succ]
          refine wpAnyH_ready (rs := [6]) (by kernel_rfl) (by simp) ?_
          refine AllReadyH.cons (opAt rfl) (fun K hK => ?_) ?_
          · go_simp
            refine hK.out _ _ ?_ (fun hHeld1 => ?_)
            · (try dsimp only)
              all_goals trivial
            clear hK K hHeld
            have hHeld := hHeld1; clear hHeld1
            try simp only [Act.put, List.setIfInBounds_toArray, List.set_cons_zero, List.set_cons_succ]
            refine wpAnyH_take (i := 7) (v := ?_) (opAt rfl) (by kernel_rfl) (by kernel_rfl) (by kernel_rfl) (fun _ _ _ h => h) (Or.inl ⟨by rfl, ?_⟩) (by assumption) ?_
            rotate_left
            · (intro w hSw; (try dsimp only at hSw); go_simp) <;> with_reducible rfl
            try simp only [Act.put, List.setIfInBounds_toArray, List.set_cons_zero, List.set_cons_succ]
            refine wpAnyH_ready (rs := [8]) (by kernel_rfl) (by simp) ?_
            refine AllReadyH.cons (opAt rfl) (fun K hK => ?_) ?_
            · go_simp
              refine hK.out _ _ ?_ (fun hHeld1 => ?_)
              · (try dsimp only)
                all_goals trivial
              clear hK K hHeld
              have hHeld := hHeld1; clear hHeld1
              try simp only [Act.put, List.setIfInBounds_toArray, List.set_cons_zero, List.set_cons_succ]
              refine wpAnyH_ready (rs := [9]) (by kernel_rfl) (by simp) ?_
              refine AllReadyH.cons (opAt rfl) (fun K hK => ?_) ?_
              · (refine step_pushG fEnt (by rfl) (.tmp 36) (.tmp 43) (by rfl) Ent.enc Ent.enc_length w0 (lo := z2.val.heap.size) [(⟨s, 3⟩ : Ent)] E.w (by rfl) (by rfl) (heap_alloc_at (by simp)) (FX.oww (T := 40) (eE := 31) (lo := z2.val.heap.size) (rb := rb) (G := G) (w := w) (d := E.d) (vr := .slice p1 E.r.length c1) (vw := .slice p2 E.w.length c2) (r := E.r) (u := E.w)  (by repeat (first | (with_reducible exact HF5.out) | (with_reducible refine FX.upR ?_ _) | (with_reducible refine FX.alloc ?_ _) | (with_reducible refine FX.drew ?_)))) (Rd.ext (rb := rb) (lim := lim + 165) (by (refine Rd.mono (a := ?_) ?_ ?_; rotate_left; (repeat (first | (with_reducible exact HR6.out) | (with_reducible refine Rd.alloc ?_ _) | (with_reducible refine Rd.set ?_ _ _ NeS.ne (by first | exact LeS.le | exact LeS.add _)))); omega))) (by omega) (by first | omega | (have := z6.grown.size; simp at this ⊢; omega)) (by rfl) (by decide) (by rfl) (oneEs' _) (by simp; omega) (by simp; omega) ?_; intro v9 z9 o9 g9 b9; have hl9 := (o9.sl Ent.enc_length).openc; obtain ⟨p9, n9, c9, rfl⟩ : ∃ p n c, v9 = Value.slice p n c := (by obtain ⟨p, c, hv, _, _⟩ := hl9; exact ⟨p, _, c, hv⟩); clear hl9; have HF9 := Lib.hid (FX.addW (T := 40) (eE := 31) (lo := z2.val.heap.size) (rb := rb) (G := G) (w := w) (d := E.d) (vr := .slice p1 E.r.length c1) (vw := .slice p2 E.w.length c2) (r := E.r) (u := E.w)  (by repeat (first | (with_reducible exact HF5.out) | (with_reducible refine FX.upR ?_ _) | (with_reducible refine FX.alloc ?_ _) | (with_reducible refine FX.drew ?_))) g9 o9 b9); have HR9 := Lib.hid (FX.rd (T := 40) (eE := 31) (lo := z2.val.heap.size) (rb := rb) (G := G) (w := w) (d := E.d) (vr := .slice p1 E.r.length c1) (vw := .slice p2 E.w.length c2) (r := E.r) (u := E.w)  (lim := lim + 165) (by repeat (first | (with_reducible exact HF5.out) | (with_reducible refine FX.upR ?_ _) | (with_reducible refine FX.alloc ?_ _) | (with_reducible refine FX.drew ?_))) (by (refine Rd.mono (a := ?_) ?_ ?_; rotate_left; (repeat (first | (with_reducible exact HR6.out) | (with_reducible refine Rd.alloc ?_ _) | (with_reducible refine Rd.set ?_ _ _ NeS.ne (by first | exact LeS.le | exact LeS.add _)))); omega)) (FX.oww (T := 40) (eE := 31) (lo := z2.val.heap.size) (rb := rb) (G := G) (w := w) (d := E.d) (vr := .slice p1 E.r.length c1) (vw := .slice p2 E.w.length c2) (r := E.r) (u := E.w)  (by repeat (first | (with_reducible exact HF5.out) | (with_reducible refine FX.upR ?_ _) | (with_reducible refine FX.alloc ?_ _) | (with_reducible refine FX.drew ?_)))) g9 z9.ext 2 (.slice p9 n9 c9)); have bx := (FX.kept (T := 40) (eE := 31) (lo := z2.val.heap.size) (rb := rb) (G := G) (w := w) (d := E.d) (vr := .slice p1 E.r.length c1) (vw := .slice p2 E.w.length c2) (r := E.r) (u := E.w)  (by repeat (first | (with_reducible exact HF5.out) | (with_reducible refine FX.upR ?_ _) | (with_reducible refine FX.alloc ?_ _) | (with_reducible refine FX.drew ?_))) (FX.oww (T := 40) (eE := 31) (lo := z2.val.heap.size) (rb := rb) (G := G) (w := w) (d := E.d) (vr := .slice p1 E.r.length c1) (vw := .slice p2 E.w.length c2) (r := E.r) (u := E.w)  (by repeat (first | (with_reducible exact HF5.out) | (with_reducible refine FX.upR ?_ _) | (with_reducible refine FX.alloc ?_ _) | (with_reducible refine FX.drew ?_)))) HF5.out.offw g9).2.1; have fG := frozen_of_row _ _ 2 _ _ bx; have cG : z9.val.cell? ⟨G, 2, none⟩ = some (.slice p2 E.w.length c2) := cell_of_row _ _ 2 _ _ _ bx; clear bx; have hLG9 : LtS G z9.val := LtS.of_some cG)
                refine hK.out _ _ ?_ (fun hHeld1 => ?_)
                · (try dsimp only)
                  all_goals trivial
                clear hK K hHeld
                have hHeld := hHeld1; clear hHeld1
                try simp only [Act.put, List.setIfInBounds_toArray, List.set_cons_zero, List.set_cons_succ]
                refine wpAnyH_take (i := 10) (v := ?_) (opAt rfl) (by kernel_rfl) (by kernel_rfl) (by kernel_rfl) (fun _ _ _ h => h) (Or.inl ⟨by rfl, ?_⟩) (by assumption) ?_
                rotate_left
                · (intro w hSw; (try dsimp only at hSw); go_simp) <;> with_reducible rfl
                try simp only [Act.put, List.setIfInBounds_toArray, List.set_cons_zero, List.set_cons_succ]
                refine wpAnyH_ready (rs := [11]) (by kernel_rfl) (by simp) ?_
                refine AllReadyH.cons (opAt rfl) (fun K hK => ?_) ?_
                · go_simp
                  refine hK.out _ _ ?_ (fun hHeld1 => ?_)
                  · (try dsimp only)
                    all_goals trivial
                  clear hK K hHeld
                  have hHeld := hHeld1; clear hHeld1
                  try simp only [Act.put, List.setIfInBounds_toArray, List.set_cons_zero, List.set_cons_succ]
                  refine wpAnyH_done (by kernel_rfl) ?_ _
                  go_wp2_with fail
                  go_meet
                  exact ⟨_, _, _, _, _, _, _, _, _, HF9.out, HR9.out.mono (by omega), by first | omega | (simp; omega), by first | omega | (simp; omega)⟩
                exact AllReadyH.nil
              exact AllReadyH.nil
            exact AllReadyH.nil
          exact AllReadyH.nil
        exact AllReadyH.nil
      exact AllReadyH.nil
    refine AllReadyH.cons (opAt rfl) (fun K hK => ?_) ?_
    · go_simp
      refine hK.out _ _ ?_ (fun hHeld1 => ?_)
      · (try dsimp only)
        all_goals trivial
      clear hK K hHeld
      have hHeld := hHeld1; clear hHeld1
      try simp only [Act.put, List.setIfInBounds_toArray, List.set_cons_zero, List.set_cons_succ]
      refine wpAnyH_ready (rs := [1, 4]) (by kernel_rfl) (by simp) ?_
      refine AllReadyH.cons (opAt rfl) (fun K hK => ?_) ?_
      · go_simp
        refine hK.out _ _ ?_ (fun hHeld1 => ?_)
        · (try dsimp only)
          all_goals trivial
        clear hK K hHeld
        have hHeld := hHeld1; clear hHeld1
        try simp only [Act.put, List.setIfInBounds_toArray, List.set_cons_zero, List.set_cons_succ]
        refine wpAnyH_ready (rs := [4]) (by kernel_rfl) (by simp) ?_
        refine AllReadyH.cons (opAt rfl) (fun K hK => ?_) ?_
        · go_simp
          (go_at_call 79; (with_reducible refine (pick_any w0 _ rb _ 3 (HR5.out.up (by repeat (first | (with_reducible exact Ext.refl _) | (with_reducible refine Ext.up ?_ _) | (with_reducible refine Ext.alloc ?_ _) | (with_reducible refine Ext.drew ?_) | (with_reducible refine Ext.setRow ?_ (by first | exact LeS.le | exact LeS.add _ | (simp; done) | (simp; omega)) _) | (with_reducible refine Ext.setCell ?_ (by first | exact LeS.le | exact LeS.add _ | (simp; done) | (simp; omega)) _)))) (by omega) (by omega) (by omega)).mono ?_); rintro e w' ⟨q, rfl, q0, q1, _, ⟨z6, rfl⟩, hr⟩; have HR6 := Lib.hid hr; have hq := q1 (by omega); clear hr q1; obtain ⟨j, hj, hj2⟩ : ∃ j : Nat, q = (j : Int) ∧ j < 3 := ⟨q.toNat, by omega, by omega⟩; subst hj; obtain ⟨s, hs⟩ : ∃ s : Int, ∀ h, ([.int .i64 (-1), .int .i64 32, .int .i64 2] : List Value)[j]'h = .int .i64 s := (by rcases (show j = 0 ∨ j = 1 ∨ j = 2 by omega) with rfl | rfl | rfl; exact ⟨-1, fun _ => rfl⟩; exact ⟨32, fun _ => rfl⟩; exact ⟨2, fun _ => rfl⟩))
          try go_wp2_with fail
          refine hK.out _ _ ?_ (fun hHeld1 => ?_)
          · (try dsimp only)
            all_goals trivial
          clear hK K hHeld
          have hHeld := hHeld1; clear hHeld1
          try simp only [Act.put, List.setIfInBounds_toArray, List.set_cons_zero, List.set_cons_succ]
          refine wpAnyH_take (i := 5) (v := ?_) (opAt rfl) (by kernel_rfl) (by kernel_rfl) (by kernel_rfl) (fun _ _ _ h => h) (Or.inl ⟨by rfl, ?_⟩) (by assumption) ?_
          rotate_left
          · (intro w hSw; (try dsimp only at hSw); go_simp) <;> with_reducible rfl
          try simp only [Act.put, List.setIfInBounds_toArray, List.set_cons_zero, List.set_cons_succ]
          refine wpAnyH_ready (rs := [6]) (by kernel_rfl) (by simp) ?_
          refine AllReadyH.cons (opAt rfl) (fun K hK => ?_) ?_
          · go_simp
            refine hK.out _ _ ?_ (fun hHeld1 => ?_)
            · (try dsimp only)
              all_goals trivial
            clear hK K hHeld
            have hHeld := hHeld1; clear hHeld1
            try simp only [Act.put, List.setIfInBounds_toArray, List.set_cons_zero, List.set_cons_succ]
            refine wpAnyH_take (i := 7) (v := ?_) (opAt rfl) (by kernel_rfl) (by kernel_rfl) (by kernel_rfl) (fun _ _ _ h => h) (Or.inl ⟨by rfl, ?_⟩) (by assumption) ?_
            rotate_left
            · (intro w hSw; (try dsimp only at hSw); go_simp) <;> with_reducible rfl
            try simp only [Act.put, List.setIfInBounds_toArray, List.set_cons_zero, List.set_cons_succ]
            refine wpAnyH_ready (rs := [8]) (by kernel_rfl) (by simp) ?_
            refine AllReadyH.cons (opAt rfl) (fun K hK => ?_) ?_
            · go_simp
              refine hK.out _ _ ?_ (fun hHeld1 => ?_)
              · (try dsimp only)
                all_goals trivial
              clear hK K hHeld
              have hHeld := hHeld1; clear hHeld1
              try simp only [Act.put, List.setIfInBounds_toArray, List.set_cons_zero, List.set_cons_succ]
              refine wpAnyH_ready (rs := [9]) (by kernel_rfl) (by simp) ?_
              refine AllReadyH.cons (opAt rfl) (fun K hK => ?_) ?_
              · (refine step_pushG fEnt (by rfl) (.tmp 36) (.tmp 43) (by rfl) Ent.enc Ent.enc_length w0 (lo := z2.val.heap.size) [(⟨s, 3⟩ : Ent)] E.w (by rfl) (by rfl) (heap_alloc_at (by simp)) (FX.oww (T := 40) (eE := 31) (lo := z2.val.heap.size) (rb := rb) (G := G) (w := w) (d := E.d) (vr := .slice p1 E.r.length c1) (vw := .slice p2 E.w.length c2) (r := E.r) (u := E.w)  (by repeat (first | (with_reducible exact HF5.out) | (with_reducible refine FX.upR ?_ _) | (with_reducible refine FX.alloc ?_ _) | (with_reducible refine FX.drew ?_)))) (Rd.ext (rb := rb) (lim := lim + 165) (by (refine Rd.mono (a := ?_) ?_ ?_; rotate_left; (repeat (first | (with_reducible exact HR6.out) | (with_reducible refine Rd.alloc ?_ _) | (with_reducible refine Rd.set ?_ _ _ NeS.ne (by first | exact LeS.le | exact LeS.add _)))); omega))) (by omega) (by first | omega | (have := z6.grown.size; simp at this ⊢; omega)) (by rfl) (by decide) (by rfl) (oneEs' _) (by simp; omega) (by simp; omega) ?_; intro v9 z9 o9 g9 b9; have hl9 := (o9.sl Ent.enc_length).openc; obtain ⟨p9, n9, c9, rfl⟩ : ∃ p n c, v9 = Value.slice p n c := (by obtain ⟨p, c, hv, _, _⟩ := hl9; exact ⟨p, _, c, hv⟩); clear hl9; have HF9 := Lib.hid (FX.addW (T := 40) (eE := 31) (lo := z2.val.heap.size) (rb := rb) (G := G) (w := w) (d := E.d) (vr := .slice p1 E.r.length c1) (vw := .slice p2 E.w.length c2) (r := E.r) (u := E.w)  (by repeat (first | (with_reducible exact HF5.out) | (with_reducible refine FX.upR ?_ _) | (with_reducible refine FX.alloc ?_ _) | (with_reducible refine FX.drew ?_))) g9 o9 b9); have HR9 := Lib.hid (FX.rd (T := 40) (eE := 31) (lo := z2.val.heap.size) (rb := rb) (G := G) (w := w) (d := E.d) (vr := .slice p1 E.r.length c1) (vw := .slice p2 E.w.length c2) (r := E.r) (u := E.w)  (lim := lim + 165) (by repeat (first | (with_reducible exact HF5.out) | (with_reducible refine FX.upR ?_ _) | (with_reducible refine FX.alloc ?_ _) | (with_reducible refine FX.drew ?_))) (by (refine Rd.mono (a := ?_) ?_ ?_; rotate_left; (repeat (first | (with_reducible exact HR6.out) | (with_reducible refine Rd.alloc ?_ _) | (with_reducible refine Rd.set ?_ _ _ NeS.ne (by first | exact LeS.le | exact LeS.add _)))); omega)) (FX.oww (T := 40) (eE := 31) (lo := z2.val.heap.size) (rb := rb) (G := G) (w := w) (d := E.d) (vr := .slice p1 E.r.length c1) (vw := .slice p2 E.w.length c2) (r := E.r) (u := E.w)  (by repeat (first | (with_reducible exact HF5.out) | (with_reducible refine FX.upR ?_ _) | (with_reducible refine FX.alloc ?_ _) | (with_reducible refine FX.drew ?_)))) g9 z9.ext 2 (.slice p9 n9 c9)); have bx := (FX.kept (T := 40) (eE := 31) (lo := z2.val.heap.size) (rb := rb) (G := G) (w := w) (d := E.d) (vr := .slice p1 E.r.length c1) (vw := .slice p2 E.w.length c2) (r := E.r) (u := E.w)  (by repeat (first | (with_reducible exact HF5.out) | (with_reducible refine FX.upR ?_ _) | (with_reducible refine FX.alloc ?_ _) | (with_reducible refine FX.drew ?_))) (FX.oww (T := 40) (eE := 31) (lo := z2.val.heap.size) (rb := rb) (G := G) (w := w) (d := E.d) (vr := .slice p1 E.r.length c1) (vw := .slice p2 E.w.length c2) (r := E.r) (u := E.w)  (by repeat (first | (with_reducible exact HF5.out) | (with_reducible refine FX.upR ?_ _) | (with_reducible refine FX.alloc ?_ _) | (with_reducible refine FX.drew ?_)))) HF5.out.offw g9).2.1; have fG := frozen_of_row _ _ 2 _ _ bx; have cG : z9.val.cell? ⟨G, 2, none⟩ = some (.slice p2 E.w.length c2) := cell_of_row _ _ 2 _ _ _ bx; clear bx; have hLG9 : LtS G z9.val := LtS.of_some cG)
                refine hK.out _ _ ?_ (fun hHeld1 => ?_)
                · (try dsimp only)
                  all_goals trivial
                clear hK K hHeld
                have hHeld := hHeld1; clear hHeld1
                try simp only [Act.put, List.setIfInBounds_toArray, List.set_cons_zero, List.set_cons_succ]
                refine wpAnyH_take (i := 10) (v := ?_) (opAt rfl) (by kernel_rfl) (by kernel_rfl) (by kernel_rfl) (fun _ _ _ h => h) (Or.inl ⟨by rfl, ?_⟩) (by assumption) ?_
                rotate_left
                · (intro w hSw; (try dsimp only at hSw); go_simp) <;> with_reducible rfl
                try simp only [Act.put, List.setIfInBounds_toArray, List.set_cons_zero, List.set_cons_succ]
                refine wpAnyH_ready (rs := [11]) (by kernel_rfl) (by simp) ?_
                refine AllReadyH.cons (opAt rfl) (fun K hK => ?_) ?_
                · go_simp
                  refine hK.out _ _ ?_ (fun hHeld1 => ?_)
                  · (try dsimp only)
                    all_goals trivial
                  clear hK K hHeld
                  have hHeld := hHeld1; clear hHeld1
                  try simp only [Act.put, List.setIfInBounds_toArray, List.set_cons_zero, List.set_cons_succ]
                  refine wpAnyH_done (by kernel_rfl) ?_ _
                  go_wp2_with fail
                  go_meet
                  exact ⟨_, _, _, _, _, _, _, _, _, HF9.out, HR9.out.mono (by omega), by first | omega | (simp; omega), by first | omega | (simp; omega)⟩
                exact AllReadyH.nil
              exact AllReadyH.nil
            exact AllReadyH.nil
          exact AllReadyH.nil
        exact AllReadyH.nil
      refine AllReadyH.cons (opAt rfl) (fun K hK => ?_) ?_
      · go_simp
        (go_at_call 79; (with_reducible refine (pick_any w0 _ rb _ 3 (HR5.out.up (by repeat (first | (with_reducible exact Ext.refl _) | (with_reducible refine Ext.up ?_ _) | (with_reducible refine Ext.alloc ?_ _) | (with_reducible refine Ext.drew ?_) | (with_reducible refine Ext.setRow ?_ (by first | exact LeS.le | exact LeS.add _ | (simp; done) | (simp; omega)) _) | (with_reducible refine Ext.setCell ?_ (by first | exact LeS.le | exact LeS.add _ | (simp; done) | (simp; omega)) _)))) (by omega) (by omega) (by omega)).mono ?_); rintro e w' ⟨q, rfl, q0, q1, _, ⟨z6, rfl⟩, hr⟩; have HR6 := Lib.hid hr; have hq := q1 (by omega); clear hr q1; obtain ⟨j, hj, hj2⟩ : ∃ j : Nat, q = (j : Int) ∧ j < 3 := ⟨q.toNat, by omega, by omega⟩; subst hj; obtain ⟨s, hs⟩ : ∃ s : Int, ∀ h, ([.int .i64 (-1), .int .i64 32, .int .i64 2] : List Value)[j]'h = .int .i64 s := (by rcases (show j = 0 ∨ j = 1 ∨ j = 2 by omega) with rfl | rfl | rfl; exact ⟨-1, fun _ => rfl⟩; exact ⟨32, fun _ => rfl⟩; exact ⟨2, fun _ => rfl⟩))
        try go_wp2_with fail
        refine hK.out _ _ ?_ (fun hHeld1 => ?_)
        · (try dsimp only)
          all_goals trivial
        clear hK K hHeld
        have hHeld := hHeld1; clear hHeld1
        try simp only [Act.put, List.setIfInBounds_toArray, List.set_cons_zero, List.set_cons_succ]
        refine wpAnyH_take (i := 5) (v := ?_) (opAt rfl) (by kernel_rfl) (by kernel_rfl) (by kernel_rfl) (fun _ _ _ h => h) (Or.inl ⟨by rfl, ?_⟩) (by assumption) ?_
        rotate_left
        · (intro w hSw; (try dsimp only at hSw); go_simp) <;> with_reducible rfl
        try simp only [Act.put, List.setIfInBounds_toArray, List.set_cons_zero, List.set_cons_succ]
        refine wpAnyH_ready (rs := [1, 6]) (by kernel_rfl) (by simp) ?_
        refine AllReadyH.cons (opAt rfl) (fun K hK => ?_) ?_
        · go_simp
          refine hK.out _ _ ?_ (fun hHeld1 => ?_)
          · (try dsimp only)
            all_goals trivial
          clear hK K hHeld
          have hHeld := hHeld1; clear hHeld1
          try simp only [Act.put, List.setIfInBounds_toArray, List.set_cons_zero, List.set_cons_succ]
          refine wpAnyH_ready (rs := [6]) (by kernel_rfl) (by simp) ?_
          refine AllReadyH.cons (opAt rfl) (fun K hK => ?_) ?_
          · go_simp
            refine hK.out _ _ ?_ (fun hHeld1 => ?_)
            · (try dsimp only)
              all_goals trivial
            clear hK K hHeld
            have hHeld := hHeld1; clear hHeld1
            try simp only [Act.put, List.setIfInBounds_toArray, List.set_cons_zero, List.set_cons_succ]
            refine wpAnyH_take (i := 7) (v := ?_) (opAt rfl) (by kernel_rfl) (by kernel_rfl) (by kernel_rfl) (fun _ _ _ h => h) (Or.inl ⟨by rfl, ?_⟩) (by assumption) ?_
            rotate_left
            · (intro w hSw; (try dsimp only at hSw); go_simp) <;> with_reducible rfl
            try simp only [Act.put, List.setIfInBounds_toArray, List.set_cons_zero, List.set_cons_succ]
            refine wpAnyH_ready (rs := [8]) (by kernel_rfl) (by simp) ?_
            refine AllReadyH.cons (opAt rfl) (fun K hK => ?_) ?_
            · go_simp
              refine hK.out _ _ ?_ (fun hHeld1 => ?_)
              · (try dsimp only)
                all_goals trivial
              clear hK K hHeld
              have hHeld := hHeld1; clear hHeld1
              try simp only [Act.put, List.setIfInBounds_toArray, List.set_cons_zero, List.set_cons_succ]
              refine wpAnyH_ready (rs := [9]) (by kernel_rfl) (by simp) ?_
              refine AllReadyH.cons (opAt rfl) (fun K hK => ?_) ?_
              · (refine step_pushG fEnt (by rfl) (.tmp 36) (.tmp 43) (by rfl) Ent.enc Ent.enc_length w0 (lo := z2.val.heap.size) [(⟨s, 3⟩ : Ent)] E.w (by rfl) (by rfl) (heap_alloc_at (by simp)) (FX.oww (T := 40) (eE := 31) (lo := z2.val.heap.size) (rb := rb) (G := G) (w := w) (d := E.d) (vr := .slice p1 E.r.length c1) (vw := .slice p2 E.w.length c2) (r := E.r) (u := E.w)  (by repeat (first | (with_reducible exact HF5.out) | (with_reducible refine FX.upR ?_ _) | (with_reducible refine FX.alloc ?_ _) | (with_reducible refine FX.drew ?_)))) (Rd.ext (rb := rb) (lim := lim + 165) (by (refine Rd.mono (a := ?_) ?_ ?_; rotate_left; (repeat (first | (with_reducible exact HR6.out) | (with_reducible refine Rd.alloc ?_ _) | (with_reducible refine Rd.set ?_ _ _ NeS.ne (by first | exact LeS.le | exact LeS.add _)))); omega))) (by omega) (by first | omega | (have := z6.grown.size; simp at this ⊢; omega)) (by rfl) (by decide) (by rfl) (oneEs' _) (by simp; omega) (by simp; omega) ?_; intro v9 z9 o9 g9 b9; have hl9 := (o9.sl Ent.enc_length).openc; obtain ⟨p9, n9, c9, rfl⟩ : ∃ p n c, v9 = Value.slice p n c := (by obtain ⟨p, c, hv, _, _⟩ := hl9; exact ⟨p, _, c, hv⟩); clear hl9; have HF9 := Lib.hid (FX.addW (T := 40) (eE := 31) (lo := z2.val.heap.size) (rb := rb) (G := G) (w := w) (d := E.d) (vr := .slice p1 E.r.length c1) (vw := .slice p2 E.w.length c2) (r := E.r) (u := E.w)  (by repeat (first | (with_reducible exact HF5.out) | (with_reducible refine FX.upR ?_ _) | (with_reducible refine FX.alloc ?_ _) | (with_reducible refine FX.drew ?_))) g9 o9 b9); have HR9 := Lib.hid (FX.rd (T := 40) (eE := 31) (lo := z2.val.heap.size) (rb := rb) (G := G) (w := w) (d := E.d) (vr := .slice p1 E.r.length c1) (vw := .slice p2 E.w.length c2) (r := E.r) (u := E.w)  (lim := lim + 165) (by repeat (first | (with_reducible exact HF5.out) | (with_reducible refine FX.upR ?_ _) | (with_reducible refine FX.alloc ?_ _) | (with_reducible refine FX.drew ?_))) (by (refine Rd.mono (a := ?_) ?_ ?_; rotate_left; (repeat (first | (with_reducible exact HR6.out) | (with_reducible refine Rd.alloc ?_ _) | (with_reducible refine Rd.set ?_ _ _ NeS.ne (by first | exact LeS.le | exact LeS.add _)))); omega)) (FX.oww (T := 40) (eE := 31) (lo := z2.val.heap.size) (rb := rb) (G := G) (w := w) (d := E.d) (vr := .slice p1 E.r.length c1) (vw := .slice p2 E.w.length c2) (r := E.r) (u := E.w)  (by repeat (first | (with_reducible exact HF5.out) | (with_reducible refine FX.upR ?_ _) | (with_reducible refine FX.alloc ?_ _) | (with_reducible refine FX.drew ?_)))) g9 z9.ext 2 (.slice p9 n9 c9)); have bx := (FX.kept (T := 40) (eE := 31) (lo := z2.val.heap.size) (rb := rb) (G := G) (w := w) (d := E.d) (vr := .slice p1 E.r.length c1) (vw := .slice p2 E.w.length c2) (r := E.r) (u := E.w)  (by repeat (first | (with_reducible exact HF5.out) | (with_reducible refine FX.upR ?_ _) | (with_reducible refine FX.alloc ?_ _) | (with_reducible refine FX.drew ?_))) (FX.oww (T := 40) (eE := 31) (lo := z2.val.heap.size) (rb := rb) (G := G) (w := w) (d := E.d) (vr := .slice p1 E.r.length c1) (vw := .slice p2 E.w.length c2) (r := E.r) (u := E.w)  (by repeat (first | (with_reducible exact HF5.out) | (with_reducible refine FX.upR ?_ _) | (with_reducible refine FX.alloc ?_ _) | (with_reducible refine FX.drew ?_)))) HF5.out.offw g9).2.1; have fG := frozen_of_row _ _ 2 _ _ bx; have cG : z9.val.cell? ⟨G, 2, none⟩ = some (.slice p2 E.w.length c2) := cell_of_row _ _ 2 _ _ _ bx; clear bx; have hLG9 : LtS G z9.val := LtS.of_some cG)
                refine hK.out _ _ ?_ (fun hHeld1 => ?_)
                · (try dsimp only)
                  all_goals trivial
                clear hK K hHeld
                have hHeld := hHeld1; clear hHeld1
                try simp only [Act.put, List.setIfInBounds_toArray, List.set_cons_zero, List.set_cons_succ]
                refine wpAnyH_take (i := 10) (v := ?_) (opAt rfl) (by kernel_rfl) (by kernel_rfl) (by kernel_rfl) (fun _ _ _ h => h) (Or.inl ⟨by rfl, ?_⟩) (by assumption) ?_
                rotate_left
                · (intro w hSw; (try dsimp only at hSw); go_simp) <;> with_reducible rfl
                try simp only [Act.put, List.setIfInBounds_toArray, List.set_cons_zero, List.set_cons_succ]
                refine wpAnyH_ready (rs := [11]) (by kernel_rfl) (by simp) ?_
                refine AllReadyH.cons (opAt rfl) (fun K hK => ?_) ?_
                · go_simp
                  refine hK.out _ _ ?_ (fun hHeld1 => ?_)
                  · (try dsimp only)
                    all_goals trivial
                  clear hK K hHeld
                  have hHeld := hHeld1; clear hHeld1
                  try simp only [Act.put, List.setIfInBounds_toArray, List.set_cons_zero, List.set_cons_succ]
                  refine wpAnyH_done (by kernel_rfl) ?_ _
                  go_wp2_with fail
                  go_meet
                  exact ⟨_, _, _, _, _, _, _, _, _, HF9.out, HR9.out.mono (by omega), by first | omega | (simp; omega), by first | omega | (simp; omega)⟩
                exact AllReadyH.nil
              exact AllReadyH.nil
            exact AllReadyH.nil
          exact AllReadyH.nil
        refine AllReadyH.cons (opAt rfl) (fun K hK => ?_) ?_
        · go_simp
          refine hK.out _ _ ?_ (fun hHeld1 => ?_)
          · (try dsimp only)
            all_goals trivial
          clear hK K hHeld
          have hHeld := hHeld1; clear hHeld1
          try simp only [Act.put, List.setIfInBounds_toArray, List.set_cons_zero, List.set_cons_succ]
          refine wpAnyH_take (i := 7) (v := ?_) (opAt rfl) (by kernel_rfl) (by kernel_rfl) (by kernel_rfl) (fun _ _ _ h => h) (Or.inl ⟨by rfl, ?_⟩) (by assumption) ?_
          rotate_left
          · (intro w hSw; (try dsimp only at hSw); go_simp) <;> with_reducible rfl
          try simp only [Act.put, List.setIfInBounds_toArray, List.set_cons_zero, List.set_cons_succ]
          refine wpAnyH_ready (rs := [1, 8]) (by kernel_rfl) (by simp) ?_
          refine AllReadyH.cons (opAt rfl) (fun K hK => ?_) ?_
          · go_simp
            refine hK.out _ _ ?_ (fun hHeld1 => ?_)
            · (try dsimp only)
              all_goals trivial
            clear hK K hHeld
            have hHeld := hHeld1; clear hHeld1
            try simp only [Act.put, List.setIfInBounds_toArray, List.set_cons_zero, List.set_cons_succ]
            refine wpAnyH_ready (rs := [8]) (by kernel_rfl) (by simp) ?_
            refine AllReadyH.cons (opAt rfl) (fun K hK => ?_) ?_
            · go_simp
              refine hK.out _ _ ?_ (fun hHeld1 => ?_)
              · (try dsimp only)
                all_goals trivial
              clear hK K hHeld
              have hHeld := hHeld1; clear hHeld1
              try simp only [Act.put, List.setIfInBounds_toArray, List.set_cons_zero, List.set_cons_succ]
              refine wpAnyH_ready (rs := [9]) (by kernel_rfl) (by simp) ?_
              refine AllReadyH.cons (opAt rfl) (fun K hK => ?_) ?_
              · (refine step_pushG fEnt (by rfl) (.tmp 36) (.tmp 43) (by rfl) Ent.enc Ent.enc_length w0 (lo := z2.val.heap.size) [(⟨s, 3⟩ : Ent)] E.w (by rfl) (by rfl) (heap_alloc_at (by simp)) (FX.oww (T := 40) (eE := 31) (lo := z2.val.heap.size) (rb := rb) (G := G) (w := w) (d := E.d) (vr := .slice p1 E.r.length c1) (vw := .slice p2 E.w.length c2) (r := E.r) (u := E.w)  (by repeat (first | (with_reducible exact HF5.out) | (with_reducible refine FX.upR ?_ _) | (with_reducible refine FX.alloc ?_ _) | (with_reducible refine FX.drew ?_)))) (Rd.ext (rb := rb) (lim := lim + 165) (by (refine Rd.mono (a := ?_) ?_ ?_; rotate_left; (repeat (first | (with_reducible exact HR6.out) | (with_reducible refine Rd.alloc ?_ _) | (with_reducible refine Rd.set ?_ _ _ NeS.ne (by first | exact LeS.le | exact LeS.add _)))); omega))) (by omega) (by first | omega | (have := z6.grown.size; simp at this ⊢; omega)) (by rfl) (by decide) (by rfl) (oneEs' _) (by simp; omega) (by simp; omega) ?_; intro v9 z9 o9 g9 b9; have hl9 := (o9.sl Ent.enc_length).openc; obtain ⟨p9, n9, c9, rfl⟩ : ∃ p n c, v9 = Value.slice p n c := (by obtain ⟨p, c, hv, _, _⟩ := hl9; exact ⟨p, _, c, hv⟩); clear hl9; have HF9 := Lib.hid (FX.addW (T := 40) (eE := 31) (lo := z2.val.heap.size) (rb := rb) (G := G) (w := w) (d := E.d) (vr := .slice p1 E.r.length c1) (vw := .slice p2 E.w.length c2) (r := E.r) (u := E.w)  (by repeat (first | (with_reducible exact HF5.out) | (with_reducible refine FX.upR ?_ _) | (with_reducible refine FX.alloc ?_ _) | (with_reducible refine FX.drew ?_))) g9 o9 b9); have HR9 := Lib.hid (FX.rd (T := 40) (eE := 31) (lo := z2.val.heap.size) (rb := rb) (G := G) (w := w) (d := E.d) (vr := .slice p1 E.r.length c1) (vw := .slice p2 E.w.length c2) (r := E.r) (u := E.w)  (lim := lim + 165) (by repeat (first | (with_reducible exact HF5.out) | (with_reducible refine FX.upR ?_ _) | (with_reducible refine FX.alloc ?_ _) | (with_reducible refine FX.drew ?_))) (by (refine Rd.mono (a := ?_) ?_ ?_; rotate_left; (repeat (first | (with_reducible exact HR6.out) | (with_reducible refine Rd.alloc ?_ _) | (with_reducible refine Rd.set ?_ _ _ NeS.ne (by first | exact LeS.le | exact LeS.add _)))); omega)) (FX.oww (T := 40) (eE := 31) (lo := z2.val.heap.size) (rb := rb) (G := G) (w := w) (d := E.d) (vr := .slice p1 E.r.length c1) (vw := .slice p2 E.w.length c2) (r := E.r) (u := E.w)  (by repeat (first | (with_reducible exact HF5.out) | (with_reducible refine FX.upR ?_ _) | (with_reducible refine FX.alloc ?_ _) | (with_reducible refine FX.drew ?_)))) g9 z9.ext 2 (.slice p9 n9 c9)); have bx := (FX.kept (T := 40) (eE := 31) (lo := z2.val.heap.size) (rb := rb) (G := G) (w := w) (d := E.d) (vr := .slice p1 E.r.length c1) (vw := .slice p2 E.w.length c2) (r := E.r) (u := E.w)  (by repeat (first | (with_reducible exact HF5.out) | (with_reducible refine FX.upR ?_ _) | (with_reducible refine FX.alloc ?_ _) | (with_reducible refine FX.drew ?_))) (FX.oww (T := 40) (eE := 31) (lo := z2.val.heap.size) (rb := rb) (G := G) (w := w) (d := E.d) (vr := .slice p1 E.r.length c1) (vw := .slice p2 E.w.length c2) (r := E.r) (u := E.w)  (by repeat (first | (with_reducible exact HF5.out) | (with_reducible refine FX.upR ?_ _) | (with_reducible refine FX.alloc ?_ _) | (with_reducible refine FX.drew ?_)))) HF5.out.offw g9).2.1; have fG := frozen_of_row _ _ 2 _ _ bx; have cG : z9.val.cell? ⟨G, 2, none⟩ = some (.slice p2 E.w.length c2) := cell_of_row _ _ 2 _ _ _ bx; clear bx; have hLG9 : LtS G z9.val := LtS.of_some cG)
                refine hK.out _ _ ?_ (fun hHeld1 => ?_)
                · (try dsimp only)
                  all_goals trivial
                clear hK K hHeld
                have hHeld := hHeld1; clear hHeld1
                try simp only [Act.put, List.setIfInBounds_toArray, List.set_cons_zero, List.set_cons_succ]
                refine wpAnyH_take (i := 10) (v := ?_) (opAt rfl) (by kernel_rfl) (by kernel_rfl) (by kernel_rfl) (fun _ _ _ h => h) (Or.inl ⟨by rfl, ?_⟩) (by assumption) ?_
                rotate_left
                · (intro w hSw; (try dsimp only at hSw); go_simp) <;> with_reducible rfl
                try simp only [Act.put, List.setIfInBounds_toArray, List.set_cons_zero, List.set_cons_succ]
                refine wpAnyH_ready (rs := [11]) (by kernel_rfl) (by simp) ?_
                refine AllReadyH.cons (opAt rfl) (fun K hK => ?_) ?_
                · go_simp
                  refine hK.out _ _ ?_ (fun hHeld1 => ?_)
                  · (try dsimp only)
                    all_goals trivial
                  clear hK K hHeld
                  have hHeld := hHeld1; clear hHeld1
                  try simp only [Act.put, List.setIfInBounds_toArray, List.set_cons_zero, List.set_cons_succ]
                  refine wpAnyH_done (by kernel_rfl) ?_ _
                  go_wp2_with fail
                  go_meet
                  exact ⟨_, _, _, _, _, _, _, _, _, HF9.out, HR9.out.mono (by omega), by first | omega | (simp; omega), by first | omega | (simp; omega)⟩
                exact AllReadyH.nil
              exact AllReadyH.nil
            exact AllReadyH.nil
          refine AllReadyH.cons (opAt rfl) (fun K hK => ?_) ?_
          · go_simp
            refine hK.out _ _ ?_ (fun hHeld1 => ?_)
            · (try dsimp only)
              all_goals trivial
            clear hK K hHeld
            have hHeld := hHeld1; clear hHeld1
            try simp only [Act.put, List.setIfInBounds_toArray, List.set_cons_zero, List.set_cons_succ]
            refine wpAnyH_ready (rs := [1]) (by kernel_rfl) (by simp) ?_
            refine AllReadyH.cons (opAt rfl) (fun K hK => ?_) ?_
            · go_simp
              refine hK.out _ _ ?_ (fun hHeld1 => ?_)
              · (try dsimp only)
                all_goals trivial
              clear hK K hHeld
              have hHeld := hHeld1; clear hHeld1
              try simp only [Act.put, List.setIfInBounds_toArray, List.set_cons_zero, List.set_cons_succ]
              refine wpAnyH_ready (rs := [9]) (by kernel_rfl) (by simp) ?_
              refine AllReadyH.cons (opAt rfl) (fun K hK => ?_) ?_
              · (refine step_pushG fEnt (by rfl) (.tmp 36) (.tmp 43) (by rfl) Ent.enc Ent.enc_length w0 (lo := z2.val.heap.size) [(⟨s, 3⟩ : Ent)] E.w (by rfl) (by rfl) (heap_alloc_at (by simp)) (FX.oww (T := 40) (eE := 31) (lo := z2.val.heap.size) (rb := rb) (G := G) (w := w) (d := E.d) (vr := .slice p1 E.r.length c1) (vw := .slice p2 E.w.length c2) (r := E.r) (u := E.w)  (by repeat (first | (with_reducible exact HF5.out) | (with_reducible refine FX.upR ?_ _) | (with_reducible refine FX.alloc ?_ _) | (with_reducible refine FX.drew ?_)))) (Rd.ext (rb := rb) (lim := lim + 165) (by (refine Rd.mono (a := ?_) ?_ ?_; rotate_left; (repeat (first | (with_reducible exact HR6.out) | (with_reducible refine Rd.alloc ?_ _) | (with_reducible refine Rd.set ?_ _ _ NeS.ne (by first | exact LeS.le | exact LeS.add _)))); omega))) (by omega) (by first | omega | (have := z6.grown.size; simp at this ⊢; omega)) (by rfl) (by decide) (by rfl) (oneEs' _) (by simp; omega) (by simp; omega) ?_; intro v9 z9 o9 g9 b9; have hl9 := (o9.sl Ent.enc_length).openc; obtain ⟨p9, n9, c9, rfl⟩ : ∃ p n c, v9 = Value.slice p n c := (by obtain ⟨p, c, hv, _, _⟩ := hl9; exact ⟨p, _, c, hv⟩); clear hl9; have HF9 := Lib.hid (FX.addW (T := 40) (eE := 31) (lo := z2.val.heap.size) (rb := rb) (G := G) (w := w) (d := E.d) (vr := .slice p1 E.r.length c1) (vw := .slice p2 E.w.length c2) (r := E.r) (u := E.w)  (by repeat (first | (with_reducible exact HF5.out) | (with_reducible refine FX.upR ?_ _) | (with_reducible refine FX.alloc ?_ _) | (with_reducible refine FX.drew ?_))) g9 o9 b9); have HR9 := Lib.hid (FX.rd (T := 40) (eE := 31) (lo := z2.val.heap.size) (rb := rb) (G := G) (w := w) (d := E.d) (vr := .slice p1 E.r.length c1) (vw := .slice p2 E.w.length c2) (r := E.r) (u := E.w)  (lim := lim + 165) (by repeat (first | (with_reducible exact HF5.out) | (with_reducible refine FX.upR ?_ _) | (with_reducible refine FX.alloc ?_ _) | (with_reducible refine FX.drew ?_))) (by (refine Rd.mono (a := ?_) ?_ ?_; rotate_left; (repeat (first | (with_reducible exact HR6.out) | (with_reducible refine Rd.alloc ?_ _) | (with_reducible refine Rd.set ?_ _ _ NeS.ne (by first | exact LeS.le | exact LeS.add _)))); omega)) (FX.oww (T := 40) (eE := 31) (lo := z2.val.heap.size) (rb := rb) (G := G) (w := w) (d := E.d) (vr := .slice p1 E.r.length c1) (vw := .slice p2 E.w.length c2) (r := E.r) (u := E.w)  (by repeat (first | (with_reducible exact HF5.out) | (with_reducible refine FX.upR ?_ _) | (with_reducible refine FX.alloc ?_ _) | (with_reducible refine FX.drew ?_)))) g9 z9.ext 2 (.slice p9 n9 c9)); have bx := (FX.kept (T := 40) (eE := 31) (lo := z2.val.heap.size) (rb := rb) (G := G) (w := w) (d := E.d) (vr := .slice p1 E.r.length c1) (vw := .slice p2 E.w.length c2) (r := E.r) (u := E.w)  (by repeat (first | (with_reducible exact HF5.out) | (with_reducible refine FX.upR ?_ _) | (with_reducible refine FX.alloc ?_ _) | (with_reducible refine FX.drew ?_))) (FX.oww (T := 40) (eE := 31) (lo := z2.val.heap.size) (rb := rb) (G := G) (w := w) (d := E.d) (vr := .slice p1 E.r.length c1) (vw := .slice p2 E.w.length c2) (r := E.r) (u := E.w)  (by repeat (first | (with_reducible exact HF5.out) | (with_reducible refine FX.upR ?_ _) | (with_reducible refine FX.alloc ?_ _) | (with_reducible refine FX.drew ?_)))) HF5.out.offw g9).2.1; have fG := frozen_of_row _ _ 2 _ _ bx; have cG : z9.val.cell? ⟨G, 2, none⟩ = some (.slice p2 E.w.length c2) := cell_of_row _ _ 2 _ _ _ bx; clear bx; have hLG9 : LtS G z9.val := LtS.of_some cG)
                refine hK.out _ _ ?_ (fun hHeld1 => ?_)
                · (try dsimp only)
                  all_goals trivial
                clear hK K hHeld
                have hHeld := hHeld1; clear hHeld1
                try simp only [Act.put, List.setIfInBounds_toArray, List.set_cons_zero, List.set_cons_succ]
                refine wpAnyH_take (i := 10) (v := ?_) (opAt rfl) (by kernel_rfl) (by kernel_rfl) (by kernel_rfl) (fun _ _ _ h => h) (Or.inl ⟨by rfl, ?_⟩) (by assumption) ?_
                rotate_left
                · (intro w hSw; (try dsimp only at hSw); go_simp) <;> with_reducible rfl
                try simp only [Act.put, List.setIfInBounds_toArray, List.set_cons_zero, List.set_cons_succ]
                refine wpAnyH_ready (rs := [11]) (by kernel_rfl) (by simp) ?_
                refine AllReadyH.cons (opAt rfl) (fun K hK => ?_) ?_
                · go_simp
                  refine hK.out _ _ ?_ (fun hHeld1 => ?_)
                  · (try dsimp only)
                    all_goals trivial
                  clear hK K hHeld
                  have hHeld := hHeld1; clear hHeld1
                  try simp only [Act.put, List.setIfInBounds_toArray, List.set_cons_zero, List.set_cons_succ]
                  refine wpAnyH_done (by kernel_rfl) ?_ _
                  go_wp2_with fail
                  go_meet
                  exact ⟨_, _, _, _, _, _, _, _, _, HF9.out, HR9.out.mono (by omega), by first | omega | (simp; omega), by first | omega | (simp; omega)⟩
                exact AllReadyH.nil
              exact AllReadyH.nil
            exact AllReadyH.nil
          exact AllReadyH.nil
        exact AllReadyH.nil
      exact AllReadyH.nil
    refine AllReadyH.cons (opAt rfl) (fun K hK => ?_) ?_
    · go_simp
      (go_at_call 79; (with_reducible refine (pick_any w0 _ rb _ 3 (HR5.out.up (by repeat (first | (with_reducible exact Ext.refl _) | (with_reducible refine Ext.up ?_ _) | (with_reducible refine Ext.alloc ?_ _) | (with_reducible refine Ext.drew ?_) | (with_reducible refine Ext.setRow ?_ (by first | exact LeS.le | exact LeS.add _ | (simp; done) | (simp; omega)) _) | (with_reducible refine Ext.setCell ?_ (by first | exact LeS.le | exact LeS.add _ | (simp; done) | (simp; omega)) _)))) (by omega) (by omega) (by omega)).mono ?_); rintro e w' ⟨q, rfl, q0, q1, _, ⟨z6, rfl⟩, hr⟩; have HR6 := Lib.hid hr; have hq := q1 (by omega); clear hr q1; obtain ⟨j, hj, hj2⟩ : ∃ j : Nat, q = (j : Int) ∧ j < 3 := ⟨q.toNat, by omega, by omega⟩; subst hj; obtain ⟨s, hs⟩ : ∃ s : Int, ∀ h, ([.int .i64 (-1), .int .i64 32, .int .i64 2] : List Value)[j]'h = .int .i64 s := (by rcases (show j = 0 ∨ j = 1 ∨ j = 2 by omega) with rfl | rfl | rfl; exact ⟨-1, fun _ => rfl⟩; exact ⟨32, fun _ => rfl⟩; exact ⟨2, fun _ => rfl⟩))
      try go_wp2_with fail
      refine hK.out _ _ ?_ (fun hHeld1 => ?_)
      · (try dsimp only)
        all_goals trivial
      clear hK K hHeld
      have hHeld := hHeld1; clear hHeld1
      try simp only [Act.put, List.setIfInBounds_toArray, List.set_cons_zero, List.set_cons_succ]
      refine wpAnyH_ready (rs := [1, 2]) (by kernel_rfl) (by simp) ?_
      refine AllReadyH.cons (opAt rfl) (fun K hK => ?_) ?_
      · go_simp
        refine hK.out _ _ ?_ (fun hHeld1 => ?_)
        · (try dsimp only)
          all_goals trivial
        clear hK K hHeld
        have hHeld := hHeld1; clear hHeld1
        try simp only [Act.put, List.setIfInBounds_toArray, List.set_cons_zero, List.set_cons_succ]
        refine wpAnyH_ready (rs := [2]) (by kernel_rfl) (by simp) ?_
        refine AllReadyH.cons (opAt rfl) (fun K hK => ?_) ?_
        · go_simp
          refine hK.out _ _ ?_ (fun hHeld1 => ?_)
          · (try dsimp only)
            all_goals trivial
          clear hK K hHeld
          have hHeld := hHeld1; clear hHeld1
          try simp only [Act.put, List.setIfInBounds_toArray, List.set_cons_zero, List.set_cons_succ]
          refine wpAnyH_take (i := 5) (v := ?_) (opAt rfl) (by kernel_rfl) (by kernel_rfl) (by kernel_rfl) (fun _ _ _ h => h) (Or.inl ⟨by rfl, ?_⟩) (by assumption) ?_
          rotate_left
          · (intro w hSw; (try dsimp only at hSw); go_simp) <;> with_reducible rfl
          try simp only [Act.put, List.setIfInBounds_toArray, List.set_cons_zero, List.set_cons_succ]
          refine wpAnyH_ready (rs := [6]) (by kernel_rfl) (by simp) ?_
          refine AllReadyH.cons (opAt rfl) (fun K hK => ?_) ?_
          · go_simp
            refine hK.out _ _ ?_ (fun hHeld1 => ?_)
            · (try dsimp only)
              all_goals trivial
            clear hK K hHeld
            have hHeld := hHeld1; clear hHeld1
            try simp only [Act.put, List.setIfInBounds_toArray, List.set_cons_zero, List.set_cons_succ]
            refine wpAnyH_take (i := 7) (v := ?_) (opAt rfl) (by kernel_rfl) (by kernel_rfl) (by kernel_rfl) (fun _ _ _ h => h) (Or.inl ⟨by rfl, ?_⟩) (by assumption) ?_
            rotate_left
            · (intro w hSw; (try dsimp only at hSw); go_simp) <;> with_reducible rfl
            try simp only [Act.put, List.setIfInBounds_toArray, List.set_cons_zero, List.set_cons_succ]
            refine wpAnyH_ready (rs := [8]) (by kernel_rfl) (by simp) ?_
            refine AllReadyH.cons (opAt rfl) (fun K hK => ?_) ?_
            · go_simp
              refine hK.out _ _ ?_ (fun hHeld1 => ?_)
              · (try dsimp only)
                all_goals trivial
              clear hK K hHeld
              have hHeld := hHeld1; clear hHeld1
              try simp only [Act.put, List.setIfInBounds_toArray, List.set_cons_zero, List.set_cons_succ]
              refine wpAnyH_ready (rs := [9]) (by kernel_rfl) (by simp) ?_
              refine AllReadyH.cons (opAt rfl) (fun K hK => ?_) ?_
              · (refine step_pushG fEnt (by rfl) (.tmp 36) (.tmp 43) (by rfl) Ent.enc Ent.enc_length w0 (lo := z2.val.heap.size) [(⟨s, 3⟩ : Ent)] E.w (by rfl) (by rfl) (heap_alloc_at (by simp)) (FX.oww (T := 40) (eE := 31) (lo := z2.val.heap.size) (rb := rb) (G := G) (w := w) (d := E.d) (vr := .slice p1 E.r.length c1) (vw := .slice p2 E.w.length c2) (r := E.r) (u := E.w)  (by repeat (first | (with_reducible exact HF5.out) | (with_reducible refine FX.upR ?_ _) | (with_reducible refine FX.alloc ?_ _) | (with_reducible refine FX.drew ?_)))) (Rd.ext (rb := rb) (lim := lim + 165) (by (refine Rd.mono (a := ?_) ?_ ?_; rotate_left; (repeat (first | (with_reducible exact HR6.out) | (with_reducible refine Rd.alloc ?_ _) | (with_reducible refine Rd.set ?_ _ _ NeS.ne (by first | exact LeS.le | exact LeS.add _)))); omega))) (by omega) (by first | omega | (have := z6.grown.size; simp at this ⊢; omega)) (by rfl) (by decide) (by rfl) (oneEs' _) (by simp; omega) (by simp; omega) ?_; intro v9 z9 o9 g9 b9; have hl9 := (o9.sl Ent.enc_length).openc; obtain ⟨p9, n9, c9, rfl⟩ : ∃ p n c, v9 = Value.slice p n c := (by obtain ⟨p, c, hv, _, _⟩ := hl9; exact ⟨p, _, c, hv⟩); clear hl9; have HF9 := Lib.hid (FX.addW (T := 40) (eE := 31) (lo := z2.val.heap.size) (rb := rb) (G := G) (w := w) (d := E.d) (vr := .slice p1 E.r.length c1) (vw := .slice p2 E.w.length c2) (r := E.r) (u := E.w)  (by repeat (first | (with_reducible exact HF5.out) | (with_reducible refine FX.upR ?_ _) | (with_reducible refine FX.alloc ?_ _) | (with_reducible refine FX.drew ?_))) g9 o9 b9); have HR9 := Lib.hid (FX.rd (T := 40) (eE := 31) (lo := z2.val.heap.size) (rb := rb) (G := G) (w := w) (d := E.d) (vr := .slice p1 E.r.length c1) (vw := .slice p2 E.w.length c2) (r := E.r) (u := E.w)  (lim := lim + 165) (by repeat (first | (with_reducible exact HF5.out) | (with_reducible refine FX.upR ?_ _) | (with_reducible refine FX.alloc ?_ _) | (with_reducible refine FX.drew ?_))) (by (refine Rd.mono (a := ?_) ?_ ?_; rotate_left; (repeat (first | (with_reducible exact HR6.out) | (with_reducible refine Rd.alloc ?_ _) | (with_reducible refine Rd.set ?_ _ _ NeS.ne (by first | exact LeS.le | exact LeS.add _)))); omega)) (FX.oww (T := 40) (eE := 31) (lo := z2.val.heap.size) (rb := rb) (G := G) (w := w) (d := E.d) (vr := .slice p1 E.r.length c1) (vw := .slice p2 E.w.length c2) (r := E.r) (u := E.w)  (by repeat (first | (with_reducible exact HF5.out) | (with_reducible refine FX.upR ?_ _) | (with_reducible refine FX.alloc ?_ _) | (with_reducible refine FX.drew ?_)))) g9 z9.ext 2 (.slice p9 n9 c9)); have bx := (FX.kept (T := 40) (eE := 31) (lo := z2.val.heap.size) (rb := rb) (G := G) (w := w) (d := E.d) (vr := .slice p1 E.r.length c1) (vw := .slice p2 E.w.length c2) (r := E.r) (u := E.w)  (by repeat (first | (with_reducible exact HF5.out) | (with_reducible refine FX.upR ?_ _) | (with_reducible refine FX.alloc ?_ _) | (with_reducible refine FX.drew ?_))) (FX.oww (T := 40) (eE := 31) (lo := z2.val.heap.size) (rb := rb) (G := G) (w := w) (d := E.d) (vr := .slice p1 E.r.length c1) (vw := .slice p2 E.w.length c2) (r := E.r) (u := E.w)  (by repeat (first | (with_reducible exact HF5.out) | (with_reducible refine FX.upR ?_ _) | (with_reducible refine FX.alloc ?_ _) | (with_reducible refine FX.drew ?_)))) HF5.out.offw g9).2.1; have fG := frozen_of_row _ _ 2 _ _ bx; have cG : z9.val.cell? ⟨G, 2, none⟩ = some (.slice p2 E.w.length c2) := cell_of_row _ _ 2 _ _ _ bx; clear bx; have hLG9 : LtS G z9.val := LtS.of_some cG)
                refine hK.out _ _ ?_ (fun hHeld1 => ?_)
                · (try dsimp only)
                  all_goals trivial
                clear hK K hHeld
                have hHeld := hHeld1; clear hHeld1
                try simp only [Act.put, List.setIfInBounds_toArray, List.set_cons_zero, List.set_cons_succ]
                refine wpAnyH_take (i := 10) (v := ?_) (opAt rfl) (by kernel_rfl) (by kernel_rfl) (by kernel_rfl) (fun _ _ _ h => h) (Or.inl ⟨by rfl, ?_⟩) (by assumption) ?_
                rotate_left
                · (intro w hSw; (try dsimp only at hSw); go_simp) <;> with_reducible rfl
                try simp only [Act.put, List.setIfInBounds_toArray, List.set_cons_zero, List.set_cons_succ]
                refine wpAnyH_ready (rs := [11]) (by kernel_rfl) (by simp) ?_
                refine AllReadyH.cons (opAt rfl) (fun K hK => ?_) ?_
                · go_simp
                  refine hK.out _ _ ?_ (fun hHeld1 => ?_)
                  · (try dsimp only)
                    all_goals trivial
                  clear hK K hHeld
                  have hHeld := hHeld1; clear hHeld1
                  try simp only [Act.put, List.setIfInBounds_toArray, List.set_cons_zero, List.set_cons_succ]
                  refine wpAnyH_done (by kernel_rfl) ?_ _
                  go_wp2_with fail
                  go_meet
                  exact ⟨_, _, _, _, _, _, _, _, _, HF9.out, HR9.out.mono (by omega), by first | omega | (simp; omega), by first | omega | (simp; omega)⟩
                exact AllReadyH.nil
              exact AllReadyH.nil
            exact AllReadyH.nil
          exact AllReadyH.nil
        exact AllReadyH.nil
      refine AllReadyH.cons (opAt rfl) (fun K hK => ?_) ?_
      · go_simp
        refine hK.out _ _ ?_ (fun hHeld1 => ?_)
        · (try dsimp only)
          all_goals trivial
        clear hK K hHeld
        have hHeld := hHeld1; clear hHeld1
        try simp only [Act.put, List.setIfInBounds_toArray, List.set_cons_zero, List.set_cons_succ]
        refine wpAnyH_take (i := 5) (v := ?_) (opAt rfl) (by kernel_rfl) (by kernel_rfl) (by kernel_rfl) (fun _ _ _ h => h) (Or.inl ⟨by rfl, ?_⟩) (by assumption) ?_
        rotate_left
        · (intro w hSw; (try dsimp only at hSw); go_simp) <;> with_reducible rfl
        try simp only [Act.put, List.setIfInBounds_toArray, List.set_cons_zero, List.set_cons_succ]
        refine wpAnyH_ready (rs := [1, 6]) (by kernel_rfl) (by simp) ?_
        refine AllReadyH.cons (opAt rfl) (fun K hK => ?_) ?_
        · go_simp
          refine hK.out _ _ ?_ (fun hHeld1 => ?_)
          · (try dsimp only)
            all_goals trivial
          clear hK K hHeld
          have hHeld := hHeld1; clear hHeld1
          try simp only [Act.put, List.setIfInBounds_toArray, List.set_cons_zero, List.set_cons_succ]
          refine wpAnyH_ready (rs := [6]) (by kernel_rfl) (by simp) ?_
          refine AllReadyH.cons (opAt rfl) (fun K hK => ?_) ?_
          · go_simp
            refine hK.out _ _ ?_ (fun hHeld1 => ?_)
            · (try dsimp only)
              all_goals trivial
            clear hK K hHeld
            have hHeld := hHeld1; clear hHeld1
            try simp only [Act.put, List.setIfInBounds_toArray, List.set_cons_zero, List.set_cons_succ]
            refine wpAnyH_take (i := 7) (v := ?_) (opAt rfl) (by kernel_rfl) (by kernel_rfl) (by kernel_rfl) (fun _ _ _ h => h) (Or.inl ⟨by rfl, ?_⟩) (by assumption) ?_
            rotate_left
            · (intro w hSw; (try dsimp only at hSw); go_simp) <;> with_reducible rfl
            try simp only [Act.put, List.setIfInBounds_toArray, List.set_cons_zero, List.set_cons_succ]
            refine wpAnyH_ready (rs := [8]) (by kernel_rfl) (by simp) ?_
            refine AllReadyH.cons (opAt rfl) (fun K hK => ?_) ?_
            · go_simp
              refine hK.out _ _ ?_ (fun hHeld1 => ?_)
              · (try dsimp only)
                all_goals trivial
              clear hK K hHeld
              have hHeld := hHeld1; clear hHeld1
              try simp only [Act.put, List.setIfInBounds_toArray, List.set_cons_zero, List.set_cons_succ]
              refine wpAnyH_ready (rs := [9]) (by kernel_rfl) (by simp) ?_
              refine AllReadyH.cons (opAt rfl) (fun K hK => ?_) ?_
              · (refine step_pushG fEnt (by rfl) (.tmp 36) (.tmp 43) (by rfl) Ent.enc Ent.enc_length w0 (lo := z2.val.heap.size) [(⟨s, 3⟩ : Ent)] E.w (by rfl) (by rfl) (heap_alloc_at (by simp)) (FX.oww (T := 40) (eE := 31) (lo := z2.val.heap.size) (rb := rb) (G := G) (w := w) (d := E.d) (vr := .slice p1 E.r.length c1) (vw := .slice p2 E.w.length c2) (r := E.r) (u := E.w)  (by repeat (first | (with_reducible exact HF5.out) | (with_reducible refine FX.upR ?_ _) | (with_reducible refine FX.alloc ?_ _) | (with_reducible refine FX.drew ?_)))) (Rd.ext (rb := rb) (lim := lim + 165) (by (refine Rd.mono (a := ?_) ?_ ?_; rotate_left; (repeat (first | (with_reducible exact HR6.out) | (with_reducible refine Rd.alloc ?_ _) | (with_reducible refine Rd.set ?_ _ _ NeS.ne (by first | exact LeS.le | exact LeS.add _)))); omega))) (by omega) (by first | omega | (have := z6.grown.size; simp at this ⊢; omega)) (by rfl) (by decide) (by rfl) (oneEs' _) (by simp; omega) (by simp; omega) ?_; intro v9 z9 o9 g9 b9; have hl9 := (o9.sl Ent.enc_length).openc; obtain ⟨p9, n9, c9, rfl⟩ : ∃ p n c, v9 = Value.slice p n c := (by obtain ⟨p, c, hv, _, _⟩ := hl9; exact ⟨p, _, c, hv⟩); clear hl9; have HF9 := Lib.hid (FX.addW (T := 40) (eE := 31) (lo := z2.val.heap.size) (rb := rb) (G := G) (w := w) (d := E.d) (vr := .slice p1 E.r.length c1) (vw := .slice p2 E.w.length c2) (r := E.r) (u := E.w)  (by repeat (first | (with_reducible exact HF5.out) | (with_reducible refine FX.upR ?_ _) | (with_reducible refine FX.alloc ?_ _) | (with_reducible refine FX.drew ?_))) g9 o9 b9); have HR9 := Lib.hid (FX.rd (T := 40) (eE := 31) (lo := z2.val.heap.size) (rb := rb) (G := G) (w := w) (d := E.d) (vr := .slice p1 E.r.length c1) (vw := .slice p2 E.w.length c2) (r := E.r) (u := E.w)  (lim := lim + 165) (by repeat (first | (with_reducible exact HF5.out) | (with_reducible refine FX.upR ?_ _) | (with_reducible refine FX.alloc ?_ _) | (with_reducible refine FX.drew ?_))) (by (refine Rd.mono (a := ?_) ?_ ?_; rotate_left; (repeat (first | (with_reducible exact HR6.out) | (with_reducible refine Rd.alloc ?_ _) | (with_reducible refine Rd.set ?_ _ _ NeS.ne (by first | exact LeS.le | exact LeS.add _)))); omega)) (FX.oww (T := 40) (eE := 31) (lo := z2.val.heap.size) (rb := rb) (G := G) (w := w) (d := E.d) (vr := .slice p1 E.r.length c1) (vw := .slice p2 E.w.length c2) (r := E.r) (u := E.w)  (by repeat (first | (with_reducible exact HF5.out) | (with_reducible refine FX.upR ?_ _) | (with_reducible refine FX.alloc ?_ _) | (with_reducible refine FX.drew ?_)))) g9 z9.ext 2 (.slice p9 n9 c9)); have bx := (FX.kept (T := 40) (eE := 31) (lo := z2.val.heap.size) (rb := rb) (G := G) (w := w) (d := E.d) (vr := .slice p1 E.r.length c1) (vw := .slice p2 E.w.length c2) (r := E.r) (u := E.w)  (by repeat (first | (with_reducible exact HF5.out) | (with_reducible refine FX.upR ?_ _) | (with_reducible refine FX.alloc ?_ _) | (with_reducible refine FX.drew ?_))) (FX.oww (T := 40) (eE := 31) (lo := z2.val.heap.size) (rb := rb) (G := G) (w := w) (d := E.d) (vr := .slice p1 E.r.length c1) (vw := .slice p2 E.w.length c2) (r := E.r) (u := E.w)  (by repeat (first | (with_reducible exact HF5.out) | (with_reducible refine FX.upR ?_ _) | (with_reducible refine FX.alloc ?_ _) | (with_reducible refine FX.drew ?_)))) HF5.out.offw g9).2.1; have fG := frozen_of_row _ _ 2 _ _ bx; have cG : z9.val.cell? ⟨G, 2, none⟩ = some (.slice p2 E.w.length c2) := cell_of_row _ _ 2 _ _ _ bx; clear bx; have hLG9 : LtS G z9.val := LtS.of_some cG)
                refine hK.out _ _ ?_ (fun hHeld1 => ?_)
                · (try dsimp only)
                  all_goals trivial
                clear hK K hHeld
                have hHeld := hHeld1; clear hHeld1
                try simp only [Act.put, List.setIfInBounds_toArray, List.set_cons_zero, List.set_cons_succ]
                refine wpAnyH_take (i := 10) (v := ?_) (opAt rfl) (by kernel_rfl) (by kernel_rfl) (by kernel_rfl) (fun _ _ _ h => h) (Or.inl ⟨by rfl, ?_⟩) (by assumption) ?_
                rotate_left
                · (intro w hSw; (try dsimp only at hSw); go_simp) <;> with_reducible rfl
                try simp only [Act.put, List.setIfInBounds_toArray, List.set_cons_zero, List.set_cons_succ]
                refine wpAnyH_ready (rs := [11]) (by kernel_rfl) (by simp) ?_
                refine AllReadyH.cons (opAt rfl) (fun K hK => ?_) ?_
                · go_simp
                  refine hK.out _ _ ?_ (fun hHeld1 => ?_)
                  · (try dsimp only)
                    all_goals trivial
                  clear hK K hHeld
                  have hHeld := hHeld1; clear hHeld1
                  try simp only [Act.put, List.setIfInBounds_toArray, List.set_cons_zero, List.set_cons_succ]
                  refine wpAnyH_done (by kernel_rfl) ?_ _
                  go_wp2_with fail
                  go_meet
                  exact ⟨_, _, _, _, _, _, _, _, _, HF9.out, HR9.out.mono (by omega), by first | omega | (simp; omega), by first | omega | (simp; omega)⟩
                exact AllReadyH.nil
              exact AllReadyH.nil
            exact AllReadyH.nil
          exact AllReadyH.nil
        refine AllReadyH.cons (opAt rfl) (fun K hK => ?_) ?_
        · go_simp
          refine hK.out _ _ ?_ (fun hHeld1 => ?_)
          · (try dsimp only)
            all_goals trivial
          clear hK K hHeld
          have hHeld := hHeld1; clear hHeld1
          try simp only [Act.put, List.setIfInBounds_toArray, List.set_cons_zero, List.set_cons_succ]
          refine wpAnyH_take (i := 7) (v := ?_) (opAt rfl) (by kernel_rfl) (by kernel_rfl) (by kernel_rfl) (fun _ _ _ h => h) (Or.inl ⟨by rfl, ?_⟩) (by assumption) ?_
          rotate_left
          · (intro w hSw; (try dsimp only at hSw); go_simp) <;> with_reducible rfl
          try simp only [Act.put, List.setIfInBounds_toArray, List.set_cons_zero, List.set_cons_succ]
          refine wpAnyH_ready (rs := [1, 8]) (by kernel_rfl) (by simp) ?_
          refine AllReadyH.cons (opAt rfl) (fun K hK => ?_) ?_
          · go_simp
            refine hK.out _ _ ?_ (fun hHeld1 => ?_)
            · (try dsimp only)
              all_goals trivial
            clear hK K hHeld
            have hHeld := hHeld1; clear hHeld1
            try simp only [Act.put, List.setIfInBounds_toArray, List.set_cons_zero, List.set_cons_succ]
            refine wpAnyH_ready (rs := [8]) (by kernel_rfl) (by simp) ?_
            refine AllReadyH.cons (opAt rfl) (fun K hK => ?_) ?_
            · go_simp
              refine hK.out _ _ ?_ (fun hHeld1 => ?_)
              · (try dsimp only)
                all_goals trivial
              clear hK K hHeld
              have hHeld := hHeld1; clear hHeld1
              try simp only [Act.put, List.setIfInBounds_toArray, List.set_cons_zero, List.set_cons_succ]
              refine wpAnyH_ready (rs := [9]) (by kernel_rfl) (by simp) ?_
              refine AllReadyH.cons (opAt rfl) (fun K hK => ?_) ?_
              · (refine step_pushG fEnt (by rfl) (.tmp 36) (.tmp 43) (by rfl) Ent.enc Ent.enc_length w0 (lo := z2.val.heap.size) [(⟨s, 3⟩ : Ent)] E.w (by rfl) (by rfl) (heap_alloc_at (by simp)) (FX.oww (T := 40) (eE := 31) (lo := z2.val.heap.size) (rb := rb) (G := G) (w := w) (d := E.d) (vr := .slice p1 E.r.length c1) (vw := .slice p2 E.w.length c2) (r := E.r) (u := E.w)  (by repeat (first | (with_reducible exact HF5.out) | (with_reducible refine FX.upR ?_ _) | (with_reducible refine FX.alloc ?_ _) | (with_reducible refine FX.drew ?_)))) (Rd.ext (rb := rb) (lim := lim + 165) (by (refine Rd.mono (a := ?_) ?_ ?_; rotate_left; (repeat (first | (with_reducible exact HR6.out) | (with_reducible refine Rd.alloc ?_ _) | (with_reducible refine Rd.set ?_ _ _ NeS.ne (by first | exact LeS.le | exact LeS.add _)))); omega))) (by omega) (by first | omega | (have := z6.grown.size; simp at this ⊢; omega)) (by rfl) (by decide) (by rfl) (oneEs' _) (by simp; omega) (by simp; omega) ?_; intro v9 z9 o9 g9 b9; have hl9 := (o9.sl Ent.enc_length).openc; obtain ⟨p9, n9, c9, rfl⟩ : ∃ p n c, v9 = Value.slice p n c := (by obtain ⟨p, c, hv, _, _⟩ := hl9; exact ⟨p, _, c, hv⟩); clear hl9; have HF9 := Lib.hid (FX.addW (T := 40) (eE := 31) (lo := z2.val.heap.size) (rb := rb) (G := G) (w := w) (d := E.d) (vr := .slice p1 E.r.length c1) (vw := .slice p2 E.w.length c2) (r := E.r) (u := E.w)  (by repeat (first | (with_reducible exact HF5.out) | (with_reducible refine FX.upR ?_ _) | (with_reducible refine FX.alloc ?_ _) | (with_reducible refine FX.drew ?_))) g9 o9 b9); have HR9 := Lib.hid (FX.rd (T := 40) (eE := 31) (lo := z2.val.heap.size) (rb := rb) (G := G) (w := w) (d := E.d) (vr := .slice p1 E.r.length c1) (vw := .slice p2 E.w.length c2) (r := E.r) (u := E.w)  (lim := lim + 165) (by repeat (first | (with_reducible exact HF5.out) | (with_reducible refine FX.upR ?_ _) | (with_reducible refine FX.alloc ?_ _) | (with_reducible refine FX.drew ?_))) (by (refine Rd.mono (a := ?_) ?_ ?_; rotate_left; (repeat (first | (with_reducible exact HR6.out) | (with_reducible refine Rd.alloc ?_ _) | (with_reducible refine Rd.set ?_ _ _ NeS.ne (by first | exact LeS.le | exact LeS.add _)))); omega)) (FX.oww (T := 40) (eE := 31) (lo := z2.val.heap.size) (rb := rb) (G := G) (w := w) (d := E.d) (vr := .slice p1 E.r.length c1) (vw := .slice p2 E.w.length c2) (r := E.r) (u := E.w)  (by repeat (first | (with_reducible exact HF5.out) | (with_reducible refine FX.upR ?_ _) | (with_reducible refine FX.alloc ?_ _) | (with_reducible refine FX.drew ?_)))) g9 z9.ext 2 (.slice p9 n9 c9)); have bx := (FX.kept (T := 40) (eE := 31) (lo := z2.val.heap.size) (rb := rb) (G := G) (w := w) (d := E.d) (vr := .slice p1 E.r.length c1) (vw := .slice p2 E.w.length c2) (r := E.r) (u := E.w)  (by repeat (first | (with_reducible exact HF5.out) | (with_reducible refine FX.upR ?_ _) | (with_reducible refine FX.alloc ?_ _) | (with_reducible refine FX.drew ?_))) (FX.oww (T := 40) (eE := 31) (lo := z2.val.heap.size) (rb := rb) (G := G) (w := w) (d := E.d) (vr := .slice p1 E.r.length c1) (vw := .slice p2 E.w.length c2) (r := E.r) (u := E.w)  (by repeat (first | (with_reducible exact HF5.out) | (with_reducible refine FX.upR ?_ _) | (with_reducible refine FX.alloc ?_ _) | (with_reducible refine FX.drew ?_)))) HF5.out.offw g9).2.1; have fG := frozen_of_row _ _ 2 _ _ bx; have cG : z9.val.cell? ⟨G, 2, none⟩ = some (.slice p2 E.w.length c2) := cell_of_row _ _ 2 _ _ _ bx; clear bx; have hLG9 : LtS G z9.val := LtS.of_some cG)
                refine hK.out _ _ ?_ (fun hHeld1 => ?_)
                · (try dsimp only)
                  all_goals trivial
                clear hK K hHeld
                have hHeld := hHeld1; clear hHeld1
                try simp only [Act.put, List.setIfInBounds_toArray, List.set_cons_zero, List.set_cons_succ]
                refine wpAnyH_take (i := 10) (v := ?_) (opAt rfl) (by kernel_rfl) (by kernel_rfl) (by kernel_rfl) (fun _ _ _ h => h) (Or.inl ⟨by rfl, ?_⟩) (by assumption) ?_
                rotate_left
                · (intro w hSw; (try dsimp only at hSw); go_simp) <;> with_reducible rfl
                try simp only [Act.put, List.setIfInBounds_toArray, List.set_cons_zero, List.set_cons_succ]
                refine wpAnyH_ready (rs := [11]) (by kernel_rfl) (by simp) ?_
                refine AllReadyH.cons (opAt rfl) (fun K hK => ?_) ?_
                · go_simp
                  refine hK.out _ _ ?_ (fun hHeld1 => ?_)
                  · (try dsimp only)
                    all_goals trivial
                  clear hK K hHeld
                  have hHeld := hHeld1; clear hHeld1
                  try simp only [Act.put, List.setIfInBounds_toArray, List.set_cons_zero, List.set_cons_succ]
                  refine wpAnyH_done (by kernel_rfl) ?_ _
                  go_wp2_with fail
                  go_meet
                  exact ⟨_, _, _, _, _, _, _, _, _, HF9.out, HR9.out.mono (by omega), by first | omega | (simp; omega), by first | omega | (simp; omega)⟩
                exact AllReadyH.nil
              exact AllReadyH.nil
            exact AllReadyH.nil
          refine AllReadyH.cons (opAt rfl) (fun K hK => ?_) ?_
          · go_simp
            refine hK.out _ _ ?_ (fun hHeld1 => ?_)
            · (try dsimp only)
              all_goals trivial
            clear hK K hHeld
            have hHeld := hHeld1; clear hHeld1
            try simp only [Act.put, List.setIfInBounds_toArray, List.set_cons_zero, List.set_cons_succ]
            refine wpAnyH_ready (rs := [1]) (by kernel_rfl) (by simp) ?_
            refine AllReadyH.cons (opAt rfl) (fun K hK => ?_) ?_
            · go_simp
              refine hK.out _ _ ?_ (fun hHeld1 => ?_)
              · (try dsimp only)
                all_goals trivial
              clear hK K hHeld
              have hHeld := hHeld1; clear hHeld1
              try simp only [Act.put, List.setIfInBounds_toArray, List.set_cons_zero, List.set_cons_succ]
              refine wpAnyH_ready (rs := [9]) (by kernel_rfl) (by simp) ?_
              refine AllReadyH.cons (opAt rfl) (fun K hK => ?_) ?_
              · (refine step_pushG fEnt (by rfl) (.tmp 36) (.tmp 43) (by rfl) Ent.enc Ent.enc_length w0 (lo := z2.val.heap.size) [(⟨s, 3⟩ : Ent)] E.w (by rfl) (by rfl) (heap_alloc_at (by simp)) (FX.oww (T := 40) (eE := 31) (lo := z2.val.heap.size) (rb := rb) (G := G) (w := w) (d := E.d) (vr := .slice p1 E.r.length c1) (vw := .slice p2 E.w.length c2) (r := E.r) (u := E.w)  (by repeat (first | (with_reducible exact HF5.out) | (with_reducible refine FX.upR ?_ _) | (with_reducible refine FX.alloc ?_ _) | (with_reducible refine FX.drew ?_)))) (Rd.ext (rb := rb) (lim := lim + 165) (by (refine Rd.mono (a := ?_) ?_ ?_; rotate_left; (repeat (first | (with_reducible exact HR6.out) | (with_reducible refine Rd.alloc ?_ _) | (with_reducible refine Rd.set ?_ _ _ NeS.ne (by first | exact LeS.le | exact LeS.add _)))); omega))) (by omega) (by first | omega | (have := z6.grown.size; simp at this ⊢; omega)) (by rfl) (by decide) (by rfl) (oneEs' _) (by simp; omega) (by simp; omega) ?_; intro v9 z9 o9 g9 b9; have hl9 := (o9.sl Ent.enc_length).openc; obtain ⟨p9, n9, c9, rfl⟩ : ∃ p n c, v9 = Value.slice p n c := (by obtain ⟨p, c, hv, _, _⟩ := hl9; exact ⟨p, _, c, hv⟩); clear hl9; have HF9 := Lib.hid (FX.addW (T := 40) (eE := 31) (lo := z2.val.heap.size) (rb := rb) (G := G) (w := w) (d := E.d) (vr := .slice p1 E.r.length c1) (vw := .slice p2 E.w.length c2) (r := E.r) (u := E.w)  (by repeat (first | (with_reducible exact HF5.out) | (with_reducible refine FX.upR ?_ _) | (with_reducible refine FX.alloc ?_ _) | (with_reducible refine FX.drew ?_))) g9 o9 b9); have HR9 := Lib.hid (FX.rd (T := 40) (eE := 31) (lo := z2.val.heap.size) (rb := rb) (G := G) (w := w) (d := E.d) (vr := .slice p1 E.r.length c1) (vw := .slice p2 E.w.length c2) (r := E.r) (u := E.w)  (lim := lim + 165) (by repeat (first | (with_reducible exact HF5.out) | (with_reducible refine FX.upR ?_ _) | (with_reducible refine FX.alloc ?_ _) | (with_reducible refine FX.drew ?_))) (by (refine Rd.mono (a := ?_) ?_ ?_; rotate_left; (repeat (first | (with_reducible exact HR6.out) | (with_reducible refine Rd.alloc ?_ _) | (with_reducible refine Rd.set ?_ _ _ NeS.ne (by first | exact LeS.le | exact LeS.add _)))); omega)) (FX.oww (T := 40) (eE := 31) (lo := z2.val.heap.size) (rb := rb) (G := G) (w := w) (d := E.d) (vr := .slice p1 E.r.length c1) (vw := .slice p2 E.w.length c2) (r := E.r) (u := E.w)  (by repeat (first | (with_reducible exact HF5.out) | (with_reducible refine FX.upR ?_ _) | (with_reducible refine FX.alloc ?_ _) | (with_reducible refine FX.drew ?_)))) g9 z9.ext 2 (.slice p9 n9 c9)); have bx := (FX.kept (T := 40) (eE := 31) (lo := z2.val.heap.size) (rb := rb) (G := G) (w := w) (d := E.d) (vr := .slice p1 E.r.length c1) (vw := .slice p2 E.w.length c2) (r := E.r) (u := E.w)  (by repeat (first | (with_reducible exact HF5.out) | (with_reducible refine FX.upR ?_ _) | (with_reducible refine FX.alloc ?_ _) | (with_reducible refine FX.drew ?_))) (FX.oww (T := 40) (eE := 31) (lo := z2.val.heap.size) (rb := rb) (G := G) (w := w) (d := E.d) (vr := .slice p1 E.r.length c1) (vw := .slice p2 E.w.length c2) (r := E.r) (u := E.w)  (by repeat (first | (with_reducible exact HF5.out) | (with_reducible refine FX.upR ?_ _) | (with_reducible refine FX.alloc ?_ _) | (with_reducible refine FX.drew ?_)))) HF5.out.offw g9).2.1; have fG := frozen_of_row _ _ 2 _ _ bx; have cG : z9.val.cell? ⟨G, 2, none⟩ = some (.slice p2 E.w.length c2) := cell_of_row _ _ 2 _ _ _ bx; clear bx; have hLG9 : LtS G z9.val := LtS.of_some cG)
                refine hK.out _ _ ?_ (fun hHeld1 => ?_)
                · (try dsimp only)
                  all_goals trivial
                clear hK K hHeld
                have hHeld := hHeld1; clear hHeld1
                try simp only [Act.put, List.setIfInBounds_toArray, List.set_cons_zero, List.set_cons_succ]
                refine wpAnyH_take (i := 10) (v := ?_) (opAt rfl) (by kernel_rfl) (by kernel_rfl) (by kernel_rfl) (fun _ _ _ h => h) (Or.inl ⟨by rfl, ?_⟩) (by assumption) ?_
                rotate_left
                · (intro w hSw; (try dsimp only at hSw); go_simp) <;> with_reducible rfl
                try simp only [Act.put, List.setIfInBounds_toArray, List.set_cons_zero, List.set_cons_succ]
                refine wpAnyH_ready (rs := [11]) (by kernel_rfl) (by simp) ?_
                refine AllReadyH.cons (opAt rfl) (fun K hK => ?_) ?_
                · go_simp
                  refine hK.out _ _ ?_ (fun hHeld1 => ?_)
                  · (try dsimp only)
                    all_goals trivial
                  clear hK K hHeld
                  have hHeld := hHeld1; clear hHeld1
                  try simp only [Act.put, List.setIfInBounds_toArray, List.set_cons_zero, List.set_cons_succ]
                  refine wpAnyH_done (by kernel_rfl) ?_ _
                  go_wp2_with fail
                  go_meet
                  exact ⟨_, _, _, _, _, _, _, _, _, HF9.out, HR9.out.mono (by omega), by first | omega | (simp; omega), by first | omega | (simp; omega)⟩
                exact AllReadyH.nil
              exact AllReadyH.nil
            exact AllReadyH.nil
          exact AllReadyH.nil
        exact AllReadyH.nil
      exact AllReadyH.nil
    exact AllReadyH.nil
  · go_upto_region 4 with fail
    refine wp_region_held_drew (S := (fun _ => True)) (by kernel_rfl) ?_ (fun hHeld => ?_)
    · (try dsimp only)
      all_goals trivial
    refine wpAnyH_take (i := 0) (v := ?_) (opAt rfl) (by kernel_rfl) (by kernel_rfl) (by kernel_rfl) (fun _ _ _ h => h) (Or.inl ⟨by rfl, ?_⟩) (by assumption) ?_
    rotate_left
    · (intro w hSw; (try dsimp only at hSw); go_simp) <;> with_reducible rfl
    try simp only [Act.put, List.setIfInBounds_toArray, List.set_cons_zero, List.set_cons_succ]
    refine wpAnyH_take (i := 3) (v := ?_) (opAt rfl) (by kernel_rfl) (by kernel_rfl) (by kernel_rfl) (fun _ _ _ h => h) (Or.inl ⟨by rfl, ?_⟩) (by assumption) ?_
    rotate_left
    · (intro w hSw; (try dsimp only at hSw); go_simp) <;> with_reducible rfl
    try simp only [Act.put, List.setIfInBounds_toArray, List.set_cons_zero, List.set_cons_succ]
    refine wpAnyH_ready (rs := [1, 2, 4]) (by kernel_rfl) (by simp) ?_
    refine AllReadyH.cons (opAt rfl) (fun K hK => ?_) ?_
    · go_simp
      refine hK.out _ _ ?_ (fun hHeld1 => ?_)
      · (try dsimp only)
        all_goals trivial
      clear hK K hHeld
      have hHeld := hHeld1; clear hHeld1
      try simp only [Act.put, List.setIfInBounds_toArray, List.set_cons_zero, List.set_cons_succ]
      refine wpAnyH_ready (rs := [2, 4]) (by kernel_rfl) (by simp) ?_
      refine AllReadyH.cons (opAt rfl) (fun K hK => ?_) ?_
      · go_simp
        refine hK.out _ _ ?_ (fun hHeld1 => ?_)
        · (try dsimp only)
          all_goals trivial
        clear hK K hHeld
        have hHeld := hHeld1; clear hHeld1
        try simp only [Act.put, List.setIfInBounds_toArray, List.set_cons_zero, List.set_cons_succ]
        refine wpAnyH_ready (rs := [4]) (by kernel_rfl) (by simp) ?_
        refine AllReadyH.cons (opAt rfl) (fun K hK => ?_) ?_
        · go_simp
          (go_at_call 79; (with_reducible refine (pick_any w0 _ rb _ 2 (HR5.out.up (by repeat (first | (with_reducible exact Ext.refl _) | (with_reducible refine Ext.up ?_ _) | (with_reducible refine Ext.alloc ?_ _) | (with_reducible refine Ext.drew ?_) | (with_reducible refine Ext.setRow ?_ (by first | exact LeS.le | exact LeS.add _ | (simp; done) | (simp; omega)) _) | (with_reducible refine Ext.setCell ?_ (by first | exact LeS.le | exact LeS.add _ | (simp; done) | (simp; omega)) _)))) (by omega) (by omega) (by omega)).mono ?_); rintro e w' ⟨q, rfl, q0, q1, _, ⟨z6, rfl⟩, hr⟩; have HR6 := Lib.hid hr; have hq := q1 (by omega); clear hr q1; obtain ⟨j, hj, hj2⟩ : ∃ j : Nat, q = (j : Int) ∧ j < 2 := ⟨q.toNat, by omega, by omega⟩; subst hj; obtain ⟨s, hs⟩ : ∃ s : Int, ∀ h, ([.int .i64 (-1), .int .i64 2000001] : List Value)[j]'h = .int .i64 s := (by rcases (show j = 0 ∨ j = 1 by omega) with rfl | rfl; exact ⟨-1, fun _ => rfl⟩; exact ⟨2000001, fun _ => rfl⟩))
          try go_wp2_with fail
          refine hK.out _ _ ?_ (fun hHeld1 => ?_)
          · (try dsimp only)
            all_goals trivial
          clear hK K hHeld
          have hHeld := hHeld1; clear hHeld1
          try simp only [Act.put, List.setIfInBounds_toArray, List.set_cons_zero, List.set_cons_succ]
          refine wpAnyH_take (i := 5) (v := ?_) (opAt rfl) (by kernel_rfl) (by kernel_rfl) (by kernel_rfl) (fun _ _ _ h => h) (Or.inl ⟨by rfl, ?_⟩) (by assumption) ?_
          rotate_left
          · (intro w hSw; (try dsimp only at hSw); go_simp) <;> with_reducible rfl
          try simp only [Act.put, List.setIfInBounds_toArray, List.set_cons_zero, List.set_cons_succ]
          refine wpAnyH_ready (rs := [6]) (by kernel_rfl) (by simp) ?_
          refine AllReadyH.cons (opAt rfl) (fun K hK => ?_) ?_
          · go_simp
            refine hK.out _ _ ?_ (fun hHeld1 => ?_)
            · (try dsimp only)
              all_goals trivial
            clear hK K hHeld
            have hHeld := hHeld1; clear hHeld1
            try simp only [Act.put, List.setIfInBounds_toArray, List.set_cons_zero, List.set_cons_succ]
            refine wpAnyH_take (i := 7) (v := ?_) (opAt rfl) (by kernel_rfl) (by kernel_rfl) (by kernel_rfl) (fun _ _ _ h => h) (Or.inl ⟨by rfl, ?_⟩) (by assumption) ?_
            rotate_left
            · (intro w hSw; (try dsimp only at hSw); go_simp) <;> with_reducible rfl
            try simp only [Act.put, List.setIfInBounds_toArray, List.set_cons_zero, List.set_cons_succ]
            refine wpAnyH_ready (rs := [8]) (by kernel_rfl) (by simp) ?_
            refine AllReadyH.cons (opAt rfl) (fun K hK => ?_) ?_
            · go_simp
              refine hK.out _ _ ?_ (fun hHeld1 => ?_)
              · (try dsimp only)
                all_goals trivial
              clear hK K hHeld
              have hHeld := hHeld1; clear hHeld1
              try simp only [Act.put, List.setIfInBounds_toArray, List.set_cons_zero, List.set_cons_succ]
              refine wpAnyH_ready (rs := [9]) (by kernel_rfl) (by simp) ?_
              refine AllReadyH.cons (opAt rfl) (fun K hK => ?_) ?_
              · (refine step_pushG fEnt (by rfl) (.tmp 17) (.tmp 24) (by rfl) Ent.enc Ent.enc_length w0 (lo := z2.val.heap.size) [(⟨1, s⟩ : Ent)] E.r (by rfl) (by rfl) (heap_alloc_at (by simp)) (FX.orr (T := 40) (eE := 31) (lo := z2.val.heap.size) (rb := rb) (G := G) (w := w) (d := E.d) (vr := .slice p1 E.r.length c1) (vw := .slice p2 E.w.length c2) (r := E.r) (u := E.w)  (by repeat (first | (with_reducible exact HF5.out) | (with_reducible refine FX.upR ?_ _) | (with_reducible refine FX.alloc ?_ _) | (with_reducible refine FX.drew ?_)))) (Rd.ext (rb := rb) (lim := lim + 165) (by (refine Rd.mono (a := ?_) ?_ ?_; rotate_left; (repeat (first | (with_reducible exact HR6.out) | (with_reducible refine Rd.alloc ?_ _) | (with_reducible refine Rd.set ?_ _ _ NeS.ne (by first | exact LeS.le | exact LeS.add _)))); omega))) (by omega) (by first | omega | (have := z6.grown.size; simp at this ⊢; omega)) (by rfl) (by decide) (by rfl) (oneEs' _) (by simp; omega) (by simp; omega) ?_; intro v9 z9 o9 g9 b9; have hl9 := (o9.sl Ent.enc_length).openc; obtain ⟨p9, n9, c9, rfl⟩ : ∃ p n c, v9 = Value.slice p n c := (by obtain ⟨p, c, hv, _, _⟩ := hl9; exact ⟨p, _, c, hv⟩); clear hl9; have HF9 := Lib.hid (FX.addR (T := 40) (eE := 31) (lo := z2.val.heap.size) (rb := rb) (G := G) (w := w) (d := E.d) (vr := .slice p1 E.r.length c1) (vw := .slice p2 E.w.length c2) (r := E.r) (u := E.w)  (by repeat (first | (with_reducible exact HF5.out) | (with_reducible refine FX.upR ?_ _) | (with_reducible refine FX.alloc ?_ _) | (with_reducible refine FX.drew ?_))) g9 o9 b9); have HR9 := Lib.hid (FX.rd (T := 40) (eE := 31) (lo := z2.val.heap.size) (rb := rb) (G := G) (w := w) (d := E.d) (vr := .slice p1 E.r.length c1) (vw := .slice p2 E.w.length c2) (r := E.r) (u := E.w)  (lim := lim + 165) (by repeat (first | (with_reducible exact HF5.out) | (with_reducible refine FX.upR ?_ _) | (with_reducible refine FX.alloc ?_ _) | (with_reducible refine FX.drew ?_))) (by (refine Rd.mono (a := ?_) ?_ ?_; rotate_left; (repeat (first | (with_reducible exact HR6.out) | (with_reducible refine Rd.alloc ?_ _) | (with_reducible refine Rd.set ?_ _ _ NeS.ne (by first | exact LeS.le | exact LeS.add _)))); omega)) (FX.orr (T := 40) (eE := 31) (lo := z2.val.heap.size) (rb := rb) (G := G) (w := w) (d := E.d) (vr := .slice p1 E.r.length c1) (vw := .slice p2 E.w.length c2) (r := E.r) (u := E.w)  (by repeat (first | (with_reducible exact HF5.out) | (with_reducible refine FX.upR ?_ _) | (with_reducible refine FX.alloc ?_ _) | (with_reducible refine FX.drew ?_)))) g9 z9.ext 1 (.slice p9 n9 c9)); have bx := (FX.kept (T := 40) (eE := 31) (lo := z2.val.heap.size) (rb := rb) (G := G) (w := w) (d := E.d) (vr := .slice p1 E.r.length c1) (vw := .slice p2 E.w.length c2) (r := E.r) (u := E.w)  (by repeat (first | (with_reducible exact HF5.out) | (with_reducible refine FX.upR ?_ _) | (with_reducible refine FX.alloc ?_ _) | (with_reducible refine FX.drew ?_))) (FX.orr (T := 40) (eE := 31) (lo := z2.val.heap.size) (rb := rb) (G := G) (w := w) (d := E.d) (vr := .slice p1 E.r.length c1) (vw := .slice p2 E.w.length c2) (r := E.r) (u := E.w)  (by repeat (first | (with_reducible exact HF5.out) | (with_reducible refine FX.upR ?_ _) | (with_reducible refine FX.alloc ?_ _) | (with_reducible refine FX.drew ?_)))) HF5.out.offr g9).2.1; have fG := frozen_of_row _ _ 1 _ _ bx; have cG : z9.val.cell? ⟨G, 1, none⟩ = some (.slice p1 E.r.length c1) := cell_of_row _ _ 1 _ _ _ bx; clear bx; have hLG9 : LtS G z9.val := LtS.of_some cG)
                refine hK.out _ _ ?_ (fun hHeld1 => ?_)
                · (try dsimp only)
                  all_goals trivial
                clear hK K hHeld
                have hHeld := hHeld1; clear hHeld1
                try simp only [Act.put, List.setIfInBounds_toArray, List.set_cons_zero, List.set_cons_succ]
                refine wpAnyH_take (i := 10) (v := ?_) (opAt rfl) (by kernel_rfl) (by kernel_rfl) (by kernel_rfl) (fun _ _ _ h => h) (Or.inl ⟨by rfl, ?_⟩) (by assumption) ?_
                rotate_left
                · (intro w hSw; (try dsimp only at hSw); go_simp) <;> with_reducible rfl
                try simp only [Act.put, List.setIfInBounds_toArray, List.set_cons_zero, List.set_cons_succ]
                refine wpAnyH_ready (rs := [11]) (by kernel_rfl) (by simp) ?_
                refine AllReadyH.cons (opAt rfl) (fun K hK => ?_) ?_
                · go_simp
                  refine hK.out _ _ ?_ (fun hHeld1 => ?_)
                  · (try dsimp only)
                    all_goals trivial
                  clear hK K hHeld
                  have hHeld := hHeld1; clear hHeld1
                  try simp only [Act.put, List.setIfInBounds_toArray, List.set_cons_zero, List.set_cons_succ]
                  refine wpAnyH_done (by kernel_rfl) ?_ _
                  go_wp2_with fail
                  go_meet
                  exact ⟨_, _, _, _, _, _, _, _, _, HF9.out, HR9.out.mono (by omega), by first | omega | (simp; omega), by first | omega | (simp; omega)⟩
                exact AllReadyH.nil
              exact AllReadyH.nil
            exact AllReadyH.nil
          exact AllReadyH.nil
        exact AllReadyH.nil
      refine AllReadyH.cons (opAt rfl) (fun K hK => ?_) ?_
      · go_simp
        (go_at_call 79; (with_reducible refine (pick_any w0 _ rb _ 2 (HR5.out.up (by repeat (first | (with_reducible exact Ext.refl _) | (with_reducible refine Ext.up ?_ _) | (with_reducible refine Ext.alloc ?_ _) | (with_reducible refine Ext.drew ?_) | (with_reducible refine Ext.setRow ?_ (by first | exact LeS.le | exact LeS.add _ | (simp; done) | (simp; omega)) _) | (with_reducible refine Ext.setCell ?_ (by first | exact LeS.le | exact LeS.add _ | (simp; done) | (simp; omega)) _)))) (by omega) (by omega) (by omega)).mono ?_); rintro e w' ⟨q, rfl, q0, q1, _, ⟨z6, rfl⟩, hr⟩; have HR6 := Lib.hid hr; have hq := q1 (by omega); clear hr q1; obtain ⟨j, hj, hj2⟩ : ∃ j : Nat, q = (j : Int) ∧ j < 2 := ⟨q.toNat, by omega, by omega⟩; subst hj; obtain ⟨s, hs⟩ : ∃ s : Int, ∀ h, ([.int .i64 (-1), .int .i64 2000001] : List Value)[j]'h = .int .i64 s := (by rcases (show j = 0 ∨ j = 1 by omega) with rfl | rfl; exact ⟨-1, fun _ => rfl⟩; exact ⟨2000001, fun _ => rfl⟩))
        try go_wp2_with fail
        refine hK.out _ _ ?_ (fun hHeld1 => ?_)
        · (try dsimp only)
          all_goals trivial
        clear hK K hHeld
        have hHeld := hHeld1; clear hHeld1
        try simp only [Act.put, List.setIfInBounds_toArray, List.set_cons_zero, List.set_cons_succ]
        refine wpAnyH_ready (rs := [2]) (by kernel_rfl) (by simp) ?_
        refine AllReadyH.cons (opAt rfl) (fun K hK => ?_) ?_
        · go_simp
          refine hK.out _ _ ?_ (fun hHeld1 => ?_)
          · (try dsimp only)
            all_goals trivial
          clear hK K hHeld
          have hHeld := hHeld1; clear hHeld1
          try simp only [Act.put, List.setIfInBounds_toArray, List.set_cons_zero, List.set_cons_succ]
          refine wpAnyH_take (i := 5) (v := ?_) (opAt rfl) (by kernel_rfl) (by kernel_rfl) (by kernel_rfl) (fun _ _ _ h => h) (Or.inl ⟨by rfl, ?_⟩) (by assumption) ?_
          rotate_left
          · (intro w hSw; (try dsimp only at hSw); go_simp) <;> with_reducible rfl
          try simp only [Act.put, List.setIfInBounds_toArray, List.set_cons_zero, List.set_cons_succ]
          refine wpAnyH_ready (rs := [6]) (by kernel_rfl) (by simp) ?_
          refine AllReadyH.cons (opAt rfl) (fun K hK => ?_) ?_
          · go_simp
            refine hK.out _ _ ?_ (fun hHeld1 => ?_)
            · (try dsimp only)
              all_goals trivial
            clear hK K hHeld
            have hHeld := hHeld1; clear hHeld1
            try simp only [Act.put, List.setIfInBounds_toArray, List.set_cons_zero, List.set_cons_succ]
            refine wpAnyH_take (i := 7) (v := ?_) (opAt rfl) (by kernel_rfl) (by kernel_rfl) (by kernel_rfl) (fun _ _ _ h => h) (Or.inl ⟨by rfl, ?_⟩) (by assumption) ?_
            rotate_left
            · (intro w hSw; (try dsimp only at hSw); go_simp) <;> with_reducible rfl
            try simp only [Act.put, List.setIfInBounds_toArray, List.set_cons_zero, List.set_cons_succ]
            refine wpAnyH_ready (rs := [8]) (by kernel_rfl) (by simp) ?_
            refine AllReadyH.cons (opAt rfl) (fun K hK => ?_) ?_
            · go_simp
              refine hK.out _ _ ?_ (fun hHeld1 => ?_)
              · (try dsimp only)
                all_goals trivial
              clear hK K hHeld
              have hHeld := hHeld1; clear hHeld1
              try simp only [Act.put, List.setIfInBounds_toArray, List.set_cons_zero, List.set_cons_succ]
              refine wpAnyH_ready (rs := [9]) (by kernel_rfl) (by simp) ?_
              refine AllReadyH.cons (opAt rfl) (fun K hK => ?_) ?_
              · (refine step_pushG fEnt (by rfl) (.tmp 17) (.tmp 24) (by rfl) Ent.enc Ent.enc_length w0 (lo := z2.val.heap.size) [(⟨1, s⟩ : Ent)] E.r (by rfl) (by rfl) (heap_alloc_at (by simp)) (FX.orr (T := 40) (eE := 31) (lo := z2.val.heap.size) (rb := rb) (G := G) (w := w) (d := E.d) (vr := .slice p1 E.r.length c1) (vw := .slice p2 E.w.length c2) (r := E.r) (u := E.w)  (by repeat (first | (with_reducible exact HF5.out) | (with_reducible refine FX.upR ?_ _) | (with_reducible refine FX.alloc ?_ _) | (with_reducible refine FX.drew ?_)))) (Rd.ext (rb := rb) (lim := lim + 165) (by (refine Rd.mono (a := ?_) ?_ ?_; rotate_left; (repeat (first | (with_reducible exact HR6.out) | (with_reducible refine Rd.alloc ?_ _) | (with_reducible refine Rd.set ?_ _ _ NeS.ne (by first | exact LeS.le | exact LeS.add _)))); omega))) (by omega) (by first | omega | (have := z6.grown.size; simp at this ⊢; omega)) (by rfl) (by decide) (by rfl) (oneEs' _) (by simp; omega) (by simp; omega) ?_; intro v9 z9 o9 g9 b9; have hl9 := (o9.sl Ent.enc_length).openc; obtain ⟨p9, n9, c9, rfl⟩ : ∃ p n c, v9 = Value.slice p n c := (by obtain ⟨p, c, hv, _, _⟩ := hl9; exact ⟨p, _, c, hv⟩); clear hl9; have HF9 := Lib.hid (FX.addR (T := 40) (eE := 31) (lo := z2.val.heap.size) (rb := rb) (G := G) (w := w) (d := E.d) (vr := .slice p1 E.r.length c1) (vw := .slice p2 E.w.length c2) (r := E.r) (u := E.w)  (by repeat (first | (with_reducible exact HF5.out) | (with_reducible refine FX.upR ?_ _) | (with_reducible refine FX.alloc ?_ _) | (with_reducible refine FX.drew ?_))) g9 o9 b9); have HR9 := Lib.hid (FX.rd (T := 40) (eE := 31) (lo := z2.val.heap.size) (rb := rb) (G := G) (w := w) (d := E.d) (vr := .slice p1 E.r.length c1) (vw := .slice p2 E.w.length c2) (r := E.r) (u := E.w)  (lim := lim + 165) (by repeat (first | (with_reducible exact HF5.out) | (with_reducible refine FX.upR ?_ _) | (with_reducible refine FX.alloc ?_ _) | (with_reducible refine FX.drew ?_))) (by (refine Rd.mono (a := ?_) ?_ ?_; rotate_left; (repeat (first | (with_reducible exact HR6.out) | (with_reducible refine Rd.alloc ?_ _) | (with_reducible refine Rd.set ?_ _ _ NeS.ne (by first | exact LeS.le | exact LeS.add _)))); omega)) (FX.orr (T := 40) (eE := 31) (lo := z2.val.heap.size) (rb := rb) (G := G) (w := w) (d := E.d) (vr := .slice p1 E.r.length c1) (vw := .slice p2 E.w.length c2) (r := E.r) (u := E.w)  (by repeat (first | (with_reducible exact HF5.out) | (with_reducible refine FX.upR ?_ _) | (with_reducible refine FX.alloc ?_ _) | (with_reducible refine FX.drew ?_)))) g9 z9.ext 1 (.slice p9 n9 c9)); have bx := (FX.kept (T := 40) (eE := 31) (lo := z2.val.heap.size) (rb := rb) (G := G) (w := w) (d := E.d) (vr := .slice p1 E.r.length c1) (vw := .slice p2 E.w.length c2) (r := E.r) (u := E.w)  (by repeat (first | (with_reducible exact HF5.out) | (with_reducible refine FX.upR ?_ _) | (with_reducible refine FX.alloc ?_ _) | (with_reducible refine FX.drew ?_))) (FX.orr (T := 40) (eE := 31) (lo := z2.val.heap.size) (rb := rb) (G := G) (w := w) (d := E.d) (vr := .slice p1 E.r.length c1) (vw := .slice p2 E.w.length c2) (r := E.r) (u := E.w)  (by repeat (first | (with_reducible exact HF5.out) | (with_reducible refine FX.upR ?_ _) | (with_reducible refine FX.alloc ?_ _) | (with_reducible refine FX.drew ?_)))) HF5.out.offr g9).2.1; have fG := frozen_of_row _ _ 1 _ _ bx; have cG : z9.val.cell? ⟨G, 1, none⟩ = some (.slice p1 E.r.length c1) := cell_of_row _ _ 1 _ _ _ bx; clear bx; have hLG9 : LtS G z9.val := LtS.of_some cG)
                refine hK.out _ _ ?_ (fun hHeld1 => ?_)
                · (try dsimp only)
                  all_goals trivial
                clear hK K hHeld
                have hHeld := hHeld1; clear hHeld1
                try simp only [Act.put, List.setIfInBounds_toArray, List.set_cons_zero, List.set_cons_succ]
                refine wpAnyH_take (i := 10) (v := ?_) (opAt rfl) (by kernel_rfl) (by kernel_rfl) (by kernel_rfl) (fun _ _ _ h => h) (Or.inl ⟨by rfl, ?_⟩) (by assumption) ?_
                rotate_left
                · (intro w hSw; (try dsimp only at hSw); go_simp) <;> with_reducible rfl
                try simp only [Act.put, List.setIfInBounds_toArray, List.set_cons_zero, List.set_cons_succ]
                refine wpAnyH_ready (rs := [11]) (by kernel_rfl) (by simp) ?_
                refine AllReadyH.cons (opAt rfl) (fun K hK => ?_) ?_
                · go_simp
                  refine hK.out _ _ ?_ (fun hHeld1 => ?_)
                  · (try dsimp only)
                    all_goals trivial
                  clear hK K hHeld
                  have hHeld := hHeld1; clear hHeld1
                  try simp only [Act.put, List.setIfInBounds_toArray, List.set_cons_zero, List.set_cons_succ]
                  refine wpAnyH_done (by kernel_rfl) ?_ _
                  go_wp2_with fail
                  go_meet
                  exact ⟨_, _, _, _, _, _, _, _, _, HF9.out, HR9.out.mono (by omega), by first | omega | (simp; omega), by first | omega | (simp; omega)⟩
                exact AllReadyH.nil
              exact AllReadyH.nil
            exact AllReadyH.nil
          exact AllReadyH.nil
        exact AllReadyH.nil
      exact AllReadyH.nil
    refine AllReadyH.cons (opAt rfl) (fun K hK => ?_) ?_
    · go_simp
      refine hK.out _ _ ?_ (fun hHeld1 => ?_)
      · (try dsimp only)
        all_goals trivial
      clear hK K hHeld
      have hHeld := hHeld1; clear hHeld1
      try simp only [Act.put, List.setIfInBounds_toArray, List.set_cons_zero, List.set_cons_succ]
      refine wpAnyH_ready (rs := [1, 4]) (by kernel_rfl) (by simp) ?_
      refine AllReadyH.cons (opAt rfl) (fun K hK => ?_) ?_
      · go_simp
        refine hK.out _ _ ?_ (fun hHeld1 => ?_)
        · (try dsimp only)
          all_goals trivial
        clear hK K hHeld
        have hHeld := hHeld1; clear hHeld1
        try simp only [Act.put, List.setIfInBounds_toArray, List.set_cons_zero, List.set_cons_succ]
        refine wpAnyH_ready (rs := [4]) (by kernel_rfl) (by simp) ?_
        refine AllReadyH.cons (opAt rfl) (fun K hK => ?_) ?_
        · go_simp
          (go_at_call 79; (with_reducible refine (pick_any w0 _ rb _ 2 (HR5.out.up (by repeat (first | (with_reducible exact Ext.refl _) | (with_reducible refine Ext.up ?_ _) | (with_reducible refine Ext.alloc ?_ _) | (with_reducible refine Ext.drew ?_) | (with_reducible refine Ext.setRow ?_ (by first | exact LeS.le | exact LeS.add _ | (simp; done) | (simp; omega)) _) | (with_reducible refine Ext.setCell ?_ (by first | exact LeS.le | exact LeS.add _ | (simp; done) | (simp; omega)) _)))) (by omega) (by omega) (by omega)).mono ?_); rintro e w' ⟨q, rfl, q0, q1, _, ⟨z6, rfl⟩, hr⟩; have HR6 := Lib.hid hr; have hq := q1 (by omega); clear hr q1; obtain ⟨j, hj, hj2⟩ : ∃ j : Nat, q = (j : Int) ∧ j < 2 := ⟨q.toNat, by omega, by omega⟩; subst hj; obtain ⟨s, hs⟩ : ∃ s : Int, ∀ h, ([.int .i64 (-1), .int .i64 2000001] : List Value)[j]'h = .int .i64 s := (by rcases (show j = 0 ∨ j = 1 by omega) with rfl | rfl; exact ⟨-1, fun _ => rfl⟩; exact ⟨2000001, fun _ => rfl⟩))
          try go_wp2_with fail
          refine hK.out _ _ ?_ (fun hHeld1 => ?_)
          · (try dsimp only)
            all_goals trivial
          clear hK K hHeld
          have hHeld := hHeld1; clear hHeld1
          try simp only [Act.put, List.setIfInBounds_toArray, List.set_cons_zero, List.set_cons_succ]
          refine wpAnyH_take (i := 5) (v := ?_) (opAt rfl) (by kernel_rfl) (by kernel_rfl) (by kernel_rfl) (fun _ _ _ h => h) (Or.inl ⟨by rfl, ?_⟩) (by assumption) ?_
          rotate_left
          · (intro w hSw; (try dsimp only at hSw); go_simp) <;> with_reducible rfl
          try simp only [Act.put, List.setIfInBounds_toArray, List.set_cons_zero, List.set_cons_succ]
          refine wpAnyH_ready (rs := [6]) (by kernel_rfl) (by simp) ?_
          refine AllReadyH.cons (opAt rfl) (fun K hK => ?_) ?_
          · go_simp
            refine hK.out _ _ ?_ (fun hHeld1 => ?_)
            · (try dsimp only)
              all_goals trivial
            clear hK K hHeld
            have hHeld := hHeld1; clear hHeld1
            try simp only [Act.put, List.setIfInBounds_toArray, List.set_cons_zero, List.set_cons_succ]
            refine wpAnyH_take (i := 7) (v := ?_) (opAt rfl) (by kernel_rfl) (by kernel_rfl) (by kernel_rfl) (fun _ _ _ h => h) (Or.inl ⟨by rfl, ?_⟩) (by assumption) ?_
            rotate_left
            · (intro w hSw; (try dsimp only at hSw); go_simp) <;> with_reducible rfl
            try simp only [Act.put, List.setIfInBounds_toArray, List.set_cons_zero, List.set_cons_succ]
            refine wpAnyH_ready (rs := [8]) (by kernel_rfl) (by simp) ?_
            refine AllReadyH.cons (opAt rfl) (fun K hK => ?_) ?_
            · go_simp
              refine hK.out _ _ ?_ (fun hHeld1 => ?_)
              · (try dsimp only)
                all_goals trivial
              clear hK K hHeld
              have hHeld := hHeld1; clear hHeld1
              try simp only [Act.put, List.setIfInBounds_toArray, List.set_cons_zero, List.set_cons_succ]
              refine wpAnyH_ready (rs := [9]) (by kernel_rfl) (by simp) ?_
              refine AllReadyH.cons (opAt rfl) (fun K hK => ?_) ?_
              · (refine step_pushG fEnt (by rfl) (.tmp 17) (.tmp 24) (by rfl) Ent.enc Ent.enc_length w0 (lo := z2.val.heap.size) [(⟨1, s⟩ : Ent)] E.r (by rfl) (by rfl) (heap_alloc_at (by simp)) (FX.orr (T := 40) (eE := 31) (lo := z2.val.heap.size) (rb := rb) (G := G) (w := w) (d := E.d) (vr := .slice p1 E.r.length c1) (vw := .slice p2 E.w.length c2) (r := E.r) (u := E.w)  (by repeat (first | (with_reducible exact HF5.out) | (with_reducible refine FX.upR ?_ _) | (with_reducible refine FX.alloc ?_ _) | (with_reducible refine FX.drew ?_)))) (Rd.ext (rb := rb) (lim := lim + 165) (by (refine Rd.mono (a := ?_) ?_ ?_; rotate_left; (repeat (first | (with_reducible exact HR6.out) | (with_reducible refine Rd.alloc ?_ _) | (with_reducible refine Rd.set ?_ _ _ NeS.ne (by first | exact LeS.le | exact LeS.add _)))); omega))) (by omega) (by first | omega | (have := z6.grown.size; simp at this ⊢; omega)) (by rfl) (by decide) (by rfl) (oneEs' _) (by simp; omega) (by simp; omega) ?_; intro v9 z9 o9 g9 b9; have hl9 := (o9.sl Ent.enc_length).openc; obtain ⟨p9, n9, c9, rfl⟩ : ∃ p n c, v9 = Value.slice p n c := (by obtain ⟨p, c, hv, _, _⟩ := hl9; exact ⟨p, _, c, hv⟩); clear hl9; have HF9 := Lib.hid (FX.addR (T := 40) (eE := 31) (lo := z2.val.heap.size) (rb := rb) (G := G) (w := w) (d := E.d) (vr := .slice p1 E.r.length c1) (vw := .slice p2 E.w.length c2) (r := E.r) (u := E.w)  (by repeat (first | (with_reducible exact HF5.out) | (with_reducible refine FX.upR ?_ _) | (with_reducible refine FX.alloc ?_ _) | (with_reducible refine FX.drew ?_))) g9 o9 b9); have HR9 := Lib.hid (FX.rd (T := 40) (eE := 31) (lo := z2.val.heap.size) (rb := rb) (G := G) (w := w) (d := E.d) (vr := .slice p1 E.r.length c1) (vw := .slice p2 E.w.length c2) (r := E.r) (u := E.w)  (lim := lim + 165) (by repeat (first | (with_reducible exact HF5.out) | (with_reducible refine FX.upR ?_ _) | (with_reducible refine FX.alloc ?_ _) | (with_reducible refine FX.drew ?_))) (by (refine Rd.mono (a := ?_) ?_ ?_; rotate_left; (repeat (first | (with_reducible exact HR6.out) | (with_reducible refine Rd.alloc ?_ _) | (with_reducible refine Rd.set ?_ _ _ NeS.ne (by first | exact LeS.le | exact LeS.add _)))); omega)) (FX.orr (T := 40) (eE := 31) (lo := z2.val.heap.size) (rb := rb) (G := G) (w := w) (d := E.d) (vr := .slice p1 E.r.length c1) (vw := .slice p2 E.w.length c2) (r := E.r) (u := E.w)  (by repeat (first | (with_reducible exact HF5.out) | (with_reducible refine FX.upR ?_ _) | (with_reducible refine FX.alloc ?_ _) | (with_reducible refine FX.drew ?_)))) g9 z9.ext 1 (.slice p9 n9 c9)); have bx := (FX.kept (T := 40) (eE := 31) (lo := z2.val.heap.size) (rb := rb) (G := G) (w := w) (d := E.d) (vr := .slice p1 E.r.length c1) (vw := .slice p2 E.w.length c2) (r := E.r) (u := E.w)  (by repeat (first | (with_reducible exact HF5.out) | (with_reducible refine FX.upR ?_ _) | (with_reducible refine FX.alloc ?_ _) | (with_reducible refine FX.drew ?_))) (FX.orr (T := 40) (eE := 31) (lo := z2.val.heap.size) (rb := rb) (G := G) (w := w) (d := E.d) (vr := .slice p1 E.r.length c1) (vw := .slice p2 E.w.length c2) (r := E.r) (u := E.w)  (by repeat (first | (with_reducible exact HF5.out) | (with_reducible refine FX.upR ?_ _) | (with_reducible refine FX.alloc ?_ _) | (with_reducible refine FX.drew ?_)))) HF5.out.offr g9).2.1; have fG := frozen_of_row _ _ 1 _ _ bx; have cG : z9.val.cell? ⟨G, 1, none⟩ = some (.slice p1 E.r.length c1) := cell_of_row _ _ 1 _ _ _ bx; clear bx; have hLG9 : LtS G z9.val := LtS.of_some cG)
                refine hK.out _ _ ?_ (fun hHeld1 => ?_)
                · (try dsimp only)
                  all_goals trivial
                clear hK K hHeld
                have hHeld := hHeld1; clear hHeld1
                try simp only [Act.put, List.setIfInBounds_toArray, List.set_cons_zero, List.set_cons_succ]
                refine wpAnyH_take (i := 10) (v := ?_) (opAt rfl) (by kernel_rfl) (by kernel_rfl) (by kernel_rfl) (fun _ _ _ h => h) (Or.inl ⟨by rfl, ?_⟩) (by assumption) ?_
                rotate_left
                · (intro w hSw; (try dsimp only at hSw); go_simp) <;> with_reducible rfl
                try simp only [Act.put, List.setIfInBounds_toArray, List.set_cons_zero, List.set_cons_succ]
                refine wpAnyH_ready (rs := [11]) (by kernel_rfl) (by simp) ?_
                refine AllReadyH.cons (opAt rfl) (fun K hK => ?_) ?_
                · go_simp
                  refine hK.out _ _ ?_ (fun hHeld1 => ?_)
                  · (try dsimp only)
                    all_goals trivial
                  clear hK K hHeld
                  have hHeld := hHeld1; clear hHeld1
                  try simp only [Act.put, List.setIfInBounds_toArray, List.set_cons_zero, List.set_cons_succ]
                  refine wpAnyH_done (by kernel_rfl) ?_ _
                  go_wp2_with fail
                  go_meet
                  exact ⟨_, _, _, _, _, _, _, _, _, HF9.out, HR9.out.mono (by omega), by first | omega | (simp; omega), by first | omega | (simp; omega)⟩
                exact AllReadyH.nil
              exact AllReadyH.nil
            exact AllReadyH.nil
          exact AllReadyH.nil
        exact AllReadyH.nil
      refine AllReadyH.cons (opAt rfl) (fun K hK => ?_) ?_
      · go_simp
        (go_at_call 79; (with_reducible refine (pick_any w0 _ rb _ 2 (HR5.out.up (by repeat (first | (with_reducible exact Ext.refl _) | (with_reducible refine Ext.up ?_ _) | (with_reducible refine Ext.alloc ?_ _) | (with_reducible refine Ext.drew ?_) | (with_reducible refine Ext.setRow ?_ (by first | exact LeS.le | exact LeS.add _ | (simp; done) | (simp; omega)) _) | (with_reducible refine Ext.setCell ?_ (by first | exact LeS.le | exact LeS.add _ | (simp; done) | (simp; omega)) _)))) (by omega) (by omega) (by omega)).mono ?_); rintro e w' ⟨q, rfl, q0, q1, _, ⟨z6, rfl⟩, hr⟩; have HR6 := Lib.hid hr; have hq := q1 (by omega); clear hr q1; obtain ⟨j, hj, hj2⟩ : ∃ j : Nat, q = (j : Int) ∧ j < 2 := ⟨q.toNat, by omega, by omega⟩; subst hj; obtain ⟨s, hs⟩ : ∃ s : Int, ∀ h, ([.int .i64 (-1), .int .i64 2000001] : List Value)[j]'h = .int .i64 s := (by rcases (show j = 0 ∨ j = 1 by omega) with rfl | rfl; exact ⟨-1, fun _ => rfl⟩; exact ⟨2000001, fun _ => rfl⟩))
        try go_wp2_with fail
        refine hK.out _ _ ?_ (fun hHeld1 => ?_)
        · (try dsimp only)
          all_goals trivial
        clear hK K hHeld
        have hHeld := hHeld1; clear hHeld1
        try simp only [Act.put, List.setIfInBounds_toArray, List.set_cons_zero, List.set_cons_succ]
        refine wpAnyH_take (i := 5) (v := ?_) (opAt rfl) (by kernel_rfl) (by kernel_rfl) (by kernel_rfl) (fun _ _ _ h => h) (Or.inl ⟨by rfl, ?_⟩) (by assumption) ?_
        rotate_left
        · (intro w hSw; (try dsimp only at hSw); go_simp) <;> with_reducible rfl
        try simp only [Act.put, List.setIfInBounds_toArray, List.set_cons_zero, List.set_cons_succ]
        refine wpAnyH_ready (rs := [1, 6]) (by kernel_rfl) (by simp) ?_
        refine AllReadyH.cons (opAt rfl) (fun K hK => ?_) ?_
        · go_simp
          refine hK.out _ _ ?_ (fun hHeld1 => ?_)
          · (try dsimp only)
            all_goals trivial
          clear hK K hHeld
          have hHeld := hHeld1; clear hHeld1
          try simp only [Act.put, List.setIfInBounds_toArray, List.set_cons_zero, List.set_cons_succ]
          refine wpAnyH_ready (rs := [6]) (by kernel_rfl) (by simp) ?_
          refine AllReadyH.cons (opAt rfl) (fun K hK => ?_) ?_
          · go_simp
            refine hK.out _ _ ?_ (fun hHeld1 => ?_)
            · (try dsimp only)
              all_goals trivial
            clear hK K hHeld
            have hHeld := hHeld1; clear hHeld1
            try simp only [Act.put, List.setIfInBounds_toArray, List.set_cons_zero, List.set_cons_succ]
            refine wpAnyH_take (i := 7) (v := ?_) (opAt rfl) (by kernel_rfl) (by kernel_rfl) (by kernel_rfl) (fun _ _ _ h => h) (Or.inl ⟨by rfl, ?_⟩) (by assumption) ?_
            rotate_left
            · (intro w hSw; (try dsimp only at hSw); go_simp) <;> with_reducible rfl
            try simp only [Act.put, List.setIfInBounds_toArray, List.set_cons_zero, List.set_cons_succ]
            refine wpAnyH_ready (rs := [8]) (by kernel_rfl) (by simp) ?_
            refine AllReadyH.cons (opAt rfl) (fun K hK => ?_) ?_
            · go_simp
              refine hK.out _ _ ?_ (fun hHeld1 => ?_)
              · (try dsimp only)
                all_goals trivial
              clear hK K hHeld
              have hHeld := hHeld1; clear hHeld1
              try simp only [Act.put, List.setIfInBounds_toArray, List.set_cons_zero, List.set_cons_succ]
              refine wpAnyH_ready (rs := [9]) (by kernel_rfl) (by simp) ?_
              refine AllReadyH.cons (opAt rfl) (fun K hK => ?_) ?_
              · (refine step_pushG fEnt (by rfl) (.tmp 17) (.tmp 24) (by rfl) Ent.enc Ent.enc_length w0 (lo := z2.val.heap.size) [(⟨1, s⟩ : Ent)] E.r (by rfl) (by rfl) (heap_alloc_at (by simp)) (FX.orr (T := 40) (eE := 31) (lo := z2.val.heap.size) (rb := rb) (G := G) (w := w) (d := E.d) (vr := .slice p1 E.r.length c1) (vw := .slice p2 E.w.length c2) (r := E.r) (u := E.w)  (by repeat (first | (with_reducible exact HF5.out) | (with_reducible refine FX.upR ?_ _) | (with_reducible refine FX.alloc ?_ _) | (with_reducible refine FX.drew ?_)))) (Rd.ext (rb := rb) (lim := lim + 165) (by (refine Rd.mono (a := ?_) ?_ ?_; rotate_left; (repeat (first | (with_reducible exact HR6.out) | (with_reducible refine Rd.alloc ?_ _) | (with_reducible refine Rd.set ?_ _ _ NeS.ne (by first | exact LeS.le | exact LeS.add _)))); omega))) (by omega) (by first | omega | (have := z6.grown.size; simp at this ⊢; omega)) (by rfl) (by decide) (by rfl) (oneEs' _) (by simp; omega) (by simp; omega) ?_; intro v9 z9 o9 g9 b9; have hl9 := (o9.sl Ent.enc_length).openc; obtain ⟨p9, n9, c9, rfl⟩ : ∃ p n c, v9 = Value.slice p n c := (by obtain ⟨p, c, hv, _, _⟩ := hl9; exact ⟨p, _, c, hv⟩); clear hl9; have HF9 := Lib.hid (FX.addR (T := 40) (eE := 31) (lo := z2.val.heap.size) (rb := rb) (G := G) (w := w) (d := E.d) (vr := .slice p1 E.r.length c1) (vw := .slice p2 E.w.length c2) (r := E.r) (u := E.w)  (by repeat (first | (with_reducible exact HF5.out) | (with_reducible refine FX.upR ?_ _) | (with_reducible refine FX.alloc ?_ _) | (with_reducible refine FX.drew ?_))) g9 o9 b9); have HR9 := Lib.hid (FX.rd (T := 40) (eE := 31) (lo := z2.val.heap.size) (rb := rb) (G := G) (w := w) (d := E.d) (vr := .slice p1 E.r.length c1) (vw := .slice p2 E.w.length c2) (r := E.r) (u := E.w)  (lim := lim + 165) (by repeat (first | (with_reducible exact HF5.out) | (with_reducible refine FX.upR ?_ _) | (with_reducible refine FX.alloc ?_ _) | (with_reducible refine FX.drew ?_))) (by (refine Rd.mono (a := ?_) ?_ ?_; rotate_left; (repeat (first | (with_reducible exact HR6.out) | (with_reducible refine Rd.alloc ?_ _) | (with_reducible refine Rd.set ?_ _ _ NeS.ne (by first | exact LeS.le | exact LeS.add _)))); omega)) (FX.orr (T := 40) (eE := 31) (lo := z2.val.heap.size) (rb := rb) (G := G) (w := w) (d := E.d) (vr := .slice p1 E.r.length c1) (vw := .slice p2 E.w.length c2) (r := E.r) (u := E.w)  (by repeat (first | (with_reducible exact HF5.out) | (with_reducible refine FX.upR ?_ _) | (with_reducible refine FX.alloc ?_ _) | (with_reducible refine FX.drew ?_)))) g9 z9.ext 1 (.slice p9 n9 c9)); have bx := (FX.kept (T := 40) (eE := 31) (lo := z2.val.heap.size) (rb := rb) (G := G) (w := w) (d := E.d) (vr := .slice p1 E.r.length c1) (vw := .slice p2 E.w.length c2) (r := E.r) (u := E.w)  (by repeat (first | (with_reducible exact HF5.out) | (with_reducible refine FX.upR ?_ _) | (with_reducible refine FX.alloc ?_ _) | (with_reducible refine FX.drew ?_))) (FX.orr (T := 40) (eE := 31) (lo := z2.val.heap.size) (rb := rb) (G := G) (w := w) (d := E.d) (vr := .slice p1 E.r.length c1) (vw := .slice p2 E.w.length c2) (r := E.r) (u := E.w)  (by repeat (first | (with_reducible exact HF5.out) | (with_reducible refine FX.upR ?_ _) | (with_reducible refine FX.alloc ?_ _) | (with_reducible refine FX.drew ?_)))) HF5.out.offr g9).2.1; have fG := frozen_of_row _ _ 1 _ _ bx; have cG : z9.val.cell? ⟨G, 1, none⟩ = some (.slice p1 E.r.length c1) := cell_of_row _ _ 1 _ _ _ bx; clear bx; have hLG9 : LtS G z9.val := LtS.of_some cG)
                refine hK.out _ _ ?_ (fun hHeld1 => ?_)
                · (try dsimp only)
                  all_goals trivial
                clear hK K hHeld
                have hHeld := hHeld1; clear hHeld1
                try simp only [Act.put, List.setIfInBounds_toArray, List.set_cons_zero, List.set_cons_succ]
                refine wpAnyH_take (i := 10) (v := ?_) (opAt rfl) (by kernel_rfl) (by kernel_rfl) (by kernel_rfl) (fun _ _ _ h => h) (Or.inl ⟨by rfl, ?_⟩) (by assumption) ?_
                rotate_left
                · (intro w hSw; (try dsimp only at hSw); go_simp) <;> with_reducible rfl
                try simp only [Act.put, List.setIfInBounds_toArray, List.set_cons_zero, List.set_cons_succ]
                refine wpAnyH_ready (rs := [11]) (by kernel_rfl) (by simp) ?_
                refine AllReadyH.cons (opAt rfl) (fun K hK => ?_) ?_
                · go_simp
                  refine hK.out _ _ ?_ (fun hHeld1 => ?_)
                  · (try dsimp only)
                    all_goals trivial
                  clear hK K hHeld
                  have hHeld := hHeld1; clear hHeld1
                  try simp only [Act.put, List.setIfInBounds_toArray, List.set_cons_zero, List.set_cons_succ]
                  refine wpAnyH_done (by kernel_rfl) ?_ _
                  go_wp2_with fail
                  go_meet
                  exact ⟨_, _, _, _, _, _, _, _, _, HF9.out, HR9.out.mono (by omega), by first | omega | (simp; omega), by first | omega | (simp; omega)⟩
                exact AllReadyH.nil
              exact AllReadyH.nil
            exact AllReadyH.nil
          exact AllReadyH.nil
        refine AllReadyH.cons (opAt rfl) (fun K hK => ?_) ?_
        · go_simp
          refine hK.out _ _ ?_ (fun hHeld1 => ?_)
          · (try dsimp only)
            all_goals trivial
          clear hK K hHeld
          have hHeld := hHeld1; clear hHeld1
          try simp only [Act.put, List.setIfInBounds_toArray, List.set_cons_zero, List.set_cons_succ]
          refine wpAnyH_take (i := 7) (v := ?_) (opAt rfl) (by kernel_rfl) (by kernel_rfl) (by kernel_rfl) (fun _ _ _ h => h) (Or.inl ⟨by rfl, ?_⟩) (by assumption) ?_
          rotate_left
          · (intro w hSw; (try dsimp only at hSw); go_simp) <;> with_reducible rfl
          try simp only [Act.put, List.setIfInBounds_toArray, List.set_cons_zero, List.set_cons_succ]
          refine wpAnyH_ready (rs := [1, 8]) (by kernel_rfl) (by simp) ?_
          refine AllReadyH.cons (opAt rfl) (fun K hK => ?_) ?_
          · go_simp
            refine hK.out _ _ ?_ (fun hHeld1 => ?_)
            · (try dsimp only)
              all_goals trivial
            clear hK K hHeld
            have hHeld := hHeld1; clear hHeld1
            try simp only [Act.put, List.setIfInBounds_toArray, List.set_cons_zero, List.set_cons_succ]
            refine wpAnyH_ready (rs := [8]) (by kernel_rfl) (by simp) ?_
            refine AllReadyH.cons (opAt rfl) (fun K hK => ?_) ?_
            · go_simp
              refine hK.out _ _ ?_ (fun hHeld1 => ?_)
              · (try dsimp only)
                all_goals trivial
              clear hK K hHeld
              have hHeld := hHeld1; clear hHeld1
              try simp only [Act.put, List.setIfInBounds_toArray, List.set_cons_zero, List.set_cons_succ]
              refine wpAnyH_ready (rs := [9]) (by kernel_rfl) (by simp) ?_
              refine AllReadyH.cons (opAt rfl) (fun K hK => ?_) ?_
              · (refine step_pushG fEnt (by rfl) (.tmp 17) (.tmp 24) (by rfl) Ent.enc Ent.enc_length w0 (lo := z2.val.heap.size) [(⟨1, s⟩ : Ent)] E.r (by rfl) (by rfl) (heap_alloc_at (by simp)) (FX.orr (T := 40) (eE := 31) (lo := z2.val.heap.size) (rb := rb) (G := G) (w := w) (d := E.d) (vr := .slice p1 E.r.length c1) (vw := .slice p2 E.w.length c2) (r := E.r) (u := E.w)  (by repeat (first | (with_reducible exact HF5.out) | (with_reducible refine FX.upR ?_ _) | (with_reducible refine FX.alloc ?_ _) | (with_reducible refine FX.drew ?_)))) (Rd.ext (rb := rb) (lim := lim + 165) (by (refine Rd.mono (a := ?_) ?_ ?_; rotate_left; (repeat (first | (with_reducible exact HR6.out) | (with_reducible refine Rd.alloc ?_ _) | (with_reducible refine Rd.set ?_ _ _ NeS.ne (by first | exact LeS.le | exact LeS.add _)))); omega))) (by omega) (by first | omega | (have := z6.grown.size; simp at this ⊢; omega)) (by rfl) (by decide) (by rfl) (oneEs' _) (by simp; omega) (by simp; omega) ?_; intro v9 z9 o9 g9 b9; have hl9 := (o9.sl Ent.enc_length).openc; obtain ⟨p9, n9, c9, rfl⟩ : ∃ p n c, v9 = Value.slice p n c := (by obtain ⟨p, c, hv, _, _⟩ := hl9; exact ⟨p, _, c, hv⟩); clear hl9; have HF9 := Lib.hid (FX.addR (T := 40) (eE := 31) (lo := z2.val.heap.size) (rb := rb) (G := G) (w := w) (d := E.d) (vr := .slice p1 E.r.length c1) (vw := .slice p2 E.w.length c2) (r := E.r) (u := E.w)  (by repeat (first | (with_reducible exact HF5.out) | (with_reducible refine FX.upR ?_ _) | (with_reducible refine FX.alloc ?_ _) | (with_reducible refine FX.drew ?_))) g9 o9 b9); have HR9 := Lib.hid (FX.rd (T := 40) (eE := 31) (lo := z2.val.heap.size) (rb := rb) (G := G) (w := w) (d := E.d) (vr := .slice p1 E.r.length c1) (vw := .slice p2 E.w.length c2) (r := E.r) (u := E.w)  (lim := lim + 165) (by repeat (first | (with_reducible exact HF5.out) | (with_reducible refine FX.upR ?_ _) | (with_reducible refine FX.alloc ?_ _) | (with_reducible refine FX.drew ?_))) (by (refine Rd.mono (a := ?_) ?_ ?_; rotate_left; (repeat (first | (with_reducible exact HR6.out) | (with_reducible refine Rd.alloc ?_ _) | (with_reducible refine Rd.set ?_ _ _ NeS.ne (by first | exact LeS.le | exact LeS.add _)))); omega)) (FX.orr (T := 40) (eE := 31) (lo := z2.val.heap.size) (rb := rb) (G := G) (w := w) (d := E.d) (vr := .slice p1 E.r.length c1) (vw := .slice p2 E.w.length c2) (r := E.r) (u := E.w)  (by repeat (first | (with_reducible exact HF5.out) | (with_reducible refine FX.upR ?_ _) | (with_reducible refine FX.alloc ?_ _) | (with_reducible refine FX.drew ?_)))) g9 z9.ext 1 (.slice p9 n9 c9)); have bx := (FX.kept (T := 40) (eE := 31) (lo := z2.val.heap.size) (rb := rb) (G := G) (w := w) (d := E.d) (vr := .slice p1 E.r.length c1) (vw := .slice p2 E.w.length c2) (r := E.r) (u := E.w)  (by repeat (first | (with_reducible exact HF5.out) | (with_reducible refine FX.upR ?_ _) | (with_reducible refine FX.alloc ?_ _) | (with_reducible refine FX.drew ?_))) (FX.orr (T := 40) (eE := 31) (lo := z2.val.heap.size) (rb := rb) (G := G) (w := w) (d := E.d) (vr := .slice p1 E.r.length c1) (vw := .slice p2 E.w.length c2) (r := E.r) (u := E.w)  (by repeat (first | (with_reducible exact HF5.out) | (with_reducible refine FX.upR ?_ _) | (with_reducible refine FX.alloc ?_ _) | (with_reducible refine FX.drew ?_)))) HF5.out.offr g9).2.1; have fG := frozen_of_row _ _ 1 _ _ bx; have cG : z9.val.cell? ⟨G, 1, none⟩ = some (.slice p1 E.r.length c1) := cell_of_row _ _ 1 _ _ _ bx; clear bx; have hLG9 : LtS G z9.val := LtS.of_some cG)
                refine hK.out _ _ ?_ (fun hHeld1 => ?_)
                · (try dsimp only)
                  all_goals trivial
                clear hK K hHeld
                have hHeld := hHeld1; clear hHeld1
                try simp only [Act.put, List.setIfInBounds_toArray, List.set_cons_zero, List.set_cons_succ]
                refine wpAnyH_take (i := 10) (v := ?_) (opAt rfl) (by kernel_rfl) (by kernel_rfl) (by kernel_rfl) (fun _ _ _ h => h) (Or.inl ⟨by rfl, ?_⟩) (by assumption) ?_
                rotate_left
                · (intro w hSw; (try dsimp only at hSw); go_simp) <;> with_reducible rfl
                try simp only [Act.put, List.setIfInBounds_toArray, List.set_cons_zero, List.set_cons_succ]
                refine wpAnyH_ready (rs := [11]) (by kernel_rfl) (by simp) ?_
                refine AllReadyH.cons (opAt rfl) (fun K hK => ?_) ?_
                · go_simp
                  refine hK.out _ _ ?_ (fun hHeld1 => ?_)
                  · (try dsimp only)
                    all_goals trivial
                  clear hK K hHeld
                  have hHeld := hHeld1; clear hHeld1
                  try simp only [Act.put, List.setIfInBounds_toArray, List.set_cons_zero, List.set_cons_succ]
                  refine wpAnyH_done (by kernel_rfl) ?_ _
                  go_wp2_with fail
                  go_meet
                  exact ⟨_, _, _, _, _, _, _, _, _, HF9.out, HR9.out.mono (by omega), by first | omega | (simp; omega), by first | omega | (simp; omega)⟩
                exact AllReadyH.nil
              exact AllReadyH.nil
            exact AllReadyH.nil
          refine AllReadyH.cons (opAt rfl) (fun K hK => ?_) ?_
          · go_simp
            refine hK.out _ _ ?_ (fun hHeld1 => ?_)
            · (try dsimp only)
              all_goals trivial
            clear hK K hHeld
            have hHeld := hHeld1; clear hHeld1
            try simp only [Act.put, List.setIfInBounds_toArray, List.set_cons_zero, List.set_cons_succ]
            refine wpAnyH_ready (rs := [1]) (by kernel_rfl) (by simp) ?_
            refine AllReadyH.cons (opAt rfl) (fun K hK => ?_) ?_
            · go_simp
              refine hK.out _ _ ?_ (fun hHeld1 => ?_)
              · (try dsimp only)
                all_goals trivial
              clear hK K hHeld
              have hHeld := hHeld1; clear hHeld1
              try simp only [Act.put, List.setIfInBounds_toArray, List.set_cons_zero, List.set_cons_succ]
              refine wpAnyH_ready (rs := [9]) (by kernel_rfl) (by simp) ?_
              refine AllReadyH.cons (opAt rfl) (fun K hK => ?_) ?_
              · (refine step_pushG fEnt (by rfl) (.tmp 17) (.tmp 24) (by rfl) Ent.enc Ent.enc_length w0 (lo := z2.val.heap.size) [(⟨1, s⟩ : Ent)] E.r (by rfl) (by rfl) (heap_alloc_at (by simp)) (FX.orr (T := 40) (eE := 31) (lo := z2.val.heap.size) (rb := rb) (G := G) (w := w) (d := E.d) (vr := .slice p1 E.r.length c1) (vw := .slice p2 E.w.length c2) (r := E.r) (u := E.w)  (by repeat (first | (with_reducible exact HF5.out) | (with_reducible refine FX.upR ?_ _) | (with_reducible refine FX.alloc ?_ _) | (with_reducible refine FX.drew ?_)))) (Rd.ext (rb := rb) (lim := lim + 165) (by (refine Rd.mono (a := ?_) ?_ ?_; rotate_left; (repeat (first | (with_reducible exact HR6.out) | (with_reducible refine Rd.alloc ?_ _) | (with_reducible refine Rd.set ?_ _ _ NeS.ne (by first | exact LeS.le | exact LeS.add _)))); omega))) (by omega) (by first | omega | (have := z6.grown.size; simp at this ⊢; omega)) (by rfl) (by decide) (by rfl) (oneEs' _) (by simp; omega) (by simp; omega) ?_; intro v9 z9 o9 g9 b9; have hl9 := (o9.sl Ent.enc_length).openc; obtain ⟨p9, n9, c9, rfl⟩ : ∃ p n c, v9 = Value.slice p n c := (by obtain ⟨p, c, hv, _, _⟩ := hl9; exact ⟨p, _, c, hv⟩); clear hl9; have HF9 := Lib.hid (FX.addR (T := 40) (eE := 31) (lo := z2.val.heap.size) (rb := rb) (G := G) (w := w) (d := E.d) (vr := .slice p1 E.r.length c1) (vw := .slice p2 E.w.length c2) (r := E.r) (u := E.w)  (by repeat (first | (with_reducible exact HF5.out) | (with_reducible refine FX.upR ?_ _) | (with_reducible refine FX.alloc ?_ _) | (with_reducible refine FX.drew ?_))) g9 o9 b9); have HR9 := Lib.hid (FX.rd (T := 40) (eE := 31) (lo := z2.val.heap.size) (rb := rb) (G := G) (w := w) (d := E.d) (vr := .slice p1 E.r.length c1) (vw := .slice p2 E.w.length c2) (r := E.r) (u := E.w)  (lim := lim + 165) (by repeat (first | (with_reducible exact HF5.out) | (with_reducible refine FX.upR ?_ _) | (with_reducible refine FX.alloc ?_ _) | (with_reducible refine FX.drew ?_))) (by (refine Rd.mono (a := ?_) ?_ ?_; rotate_left; (repeat (first | (with_reducible exact HR6.out) | (with_reducible refine Rd.alloc ?_ _) | (with_reducible refine Rd.set ?_ _ _ NeS.ne (by first | exact LeS.le | exact LeS.add _)))); omega)) (FX.orr (T := 40) (eE := 31) (lo := z2.val.heap.size) (rb := rb) (G := G) (w := w) (d := E.d) (vr := .slice p1 E.r.length c1) (vw := .slice p2 E.w.length c2) (r := E.r) (u := E.w)  (by repeat (first | (with_reducible exact HF5.out) | (with_reducible refine FX.upR ?_ _) | (with_reducible refine FX.alloc ?_ _) | (with_reducible refine FX.drew ?_)))) g9 z9.ext 1 (.slice p9 n9 c9)); have bx := (FX.kept (T := 40) (eE := 31) (lo := z2.val.heap.size) (rb := rb) (G := G) (w := w) (d := E.d) (vr := .slice p1 E.r.length c1) (vw := .slice p2 E.w.length c2) (r := E.r) (u := E.w)  (by repeat (first | (with_reducible exact HF5.out) | (with_reducible refine FX.upR ?_ _) | (with_reducible refine FX.alloc ?_ _) | (with_reducible refine FX.drew ?_))) (FX.orr (T := 40) (eE := 31) (lo := z2.val.heap.size) (rb := rb) (G := G) (w := w) (d := E.d) (vr := .slice p1 E.r.length c1) (vw := .slice p2 E.w.length c2) (r := E.r) (u := E.w)  (by repeat (first | (with_reducible exact HF5.out) | (with_reducible refine FX.upR ?_ _) | (with_reducible refine FX.alloc ?_ _) | (with_reducible refine FX.drew ?_)))) HF5.out.offr g9).2.1; have fG := frozen_of_row _ _ 1 _ _ bx; have cG : z9.val.cell? ⟨G, 1, none⟩ = some (.slice p1 E.r.length c1) := cell_of_row _ _ 1 _ _ _ bx; clear bx; have hLG9 : LtS G z9.val := LtS.of_some cG)
                refine hK.out _ _ ?_ (fun hHeld1 => ?_)
                · (try dsimp only)
                  all_goals trivial
                clear hK K hHeld
                have hHeld := hHeld1; clear hHeld1
                try simp only [Act.put, List.setIfInBounds_toArray, List.set_cons_zero, List.set_cons_succ]
                refine wpAnyH_take (i := 10) (v := ?_) (opAt rfl) (by kernel_rfl) (by kernel_rfl) (by kernel_rfl) (fun _ _ _ h => h) (Or.inl ⟨by rfl, ?_⟩) (by assumption) ?_
                rotate_left
                · (intro w hSw; (try dsimp only at hSw); go_simp) <;> with_reducible rfl
                try simp only [Act.put, List.setIfInBounds_toArray, List.set_cons_zero, List.set_cons_succ]
                refine wpAnyH_ready (rs := [11]) (by kernel_rfl) (by simp) ?_
                refine AllReadyH.cons (opAt rfl) (fun K hK => ?_) ?_
                · go_simp
                  refine hK.out _ _ ?_ (fun hHeld1 => ?_)
                  · (try dsimp only)
                    all_goals trivial
                  clear hK K hHeld
                  have hHeld := hHeld1; clear hHeld1
                  try simp only [Act.put, List.setIfInBounds_toArray, List.set_cons_zero, List.set_cons_succ]
                  refine wpAnyH_done (by kernel_rfl) ?_ _
                  go_wp2_with fail
                  go_meet
                  exact ⟨_, _, _, _, _, _, _, _, _, HF9.out, HR9.out.mono (by omega), by first | omega | (simp; omega), by first | omega | (simp; omega)⟩
                exact AllReadyH.nil
              exact AllReadyH.nil
            exact AllReadyH.nil
          exact AllReadyH.nil
        exact AllReadyH.nil
      exact AllReadyH.nil
    refine AllReadyH.cons (opAt rfl) (fun K hK => ?_) ?_
    · go_simp
      (go_at_call 79; (with_reducible refine (pick_any w0 _ rb _ 2 (HR5.out.up (by repeat (first | (with_reducible exact Ext.refl _) | (with_reducible refine Ext.up ?_ _) | (with_reducible refine Ext.alloc ?_ _) | (with_reducible refine Ext.drew ?_) | (with_reducible refine Ext.setRow ?_ (by first | exact LeS.le | exact LeS.add _ | (simp; done) | (simp; omega)) _) | (with_reducible refine Ext.setCell ?_ (by first | exact LeS.le | exact LeS.add _ | (simp; done) | (simp; omega)) _)))) (by omega) (by omega) (by omega)).mono ?_); rintro e w' ⟨q, rfl, q0, q1, _, ⟨z6, rfl⟩, hr⟩; have HR6 := Lib.hid hr; have hq := q1 (by omega); clear hr q1; obtain ⟨j, hj, hj2⟩ : ∃ j : Nat, q = (j : Int) ∧ j < 2 := ⟨q.toNat, by omega, by omega⟩; subst hj; obtain ⟨s, hs⟩ : ∃ s : Int, ∀ h, ([.int .i64 (-1), .int .i64 2000001] : List Value)[j]'h = .int .i64 s := (by rcases (show j = 0 ∨ j = 1 by omega) with rfl | rfl; exact ⟨-1, fun _ => rfl⟩; exact ⟨2000001, fun _ => rfl⟩))
      try go_wp2_with fail
      refine hK.out _ _ ?_ (fun hHeld1 => ?_)
      · (try dsimp only)
        all_goals trivial
      clear hK K hHeld
      have hHeld := hHeld1; clear hHeld1
      try simp only [Act.put, List.setIfInBounds_toArray, List.set_cons_zero, List.set_cons_succ]
      refine wpAnyH_ready (rs := [1, 2]) (by kernel_rfl) (by simp) ?_
      refine AllReadyH.cons (opAt rfl) (fun K hK => ?_) ?_
      · go_simp
        refine hK.out _ _ ?_ (fun hHeld1 => ?_)
        · (try dsimp only)
          all_goals trivial
        clear hK K hHeld
        have hHeld := hHeld1; clear hHeld1
        try simp only [Act.put, List.setIfInBounds_toArray, List.set_cons_zero, List.set_cons_succ]
        refine wpAnyH_ready (rs := [2]) (by kernel_rfl) (by simp) ?_
        refine AllReadyH.cons (opAt rfl) (fun K hK => ?_) ?_
        · go_simp
          refine hK.out _ _ ?_ (fun hHeld1 => ?_)
          · (try dsimp only)
            all_goals trivial
          clear hK K hHeld
          have hHeld := hHeld1; clear hHeld1
          try simp only [Act.put, List.setIfInBounds_toArray, List.set_cons_zero, List.set_cons_succ]
          refine wpAnyH_take (i := 5) (v := ?_) (opAt rfl) (by kernel_rfl) (by kernel_rfl) (by kernel_rfl) (fun _ _ _ h => h) (Or.inl ⟨by rfl, ?_⟩) (by assumption) ?_
          rotate_left
          · (intro w hSw; (try dsimp only at hSw); go_simp) <;> with_reducible rfl
          try simp only [Act.put, List.setIfInBounds_toArray, List.set_cons_zero, List.set_cons_succ]
          refine wpAnyH_ready (rs := [6]) (by kernel_rfl) (by simp) ?_
          refine AllReadyH.cons (opAt rfl) (fun K hK => ?_) ?_
          · go_simp
            refine hK.out _ _ ?_ (fun hHeld1 => ?_)
            · (try dsimp only)
              all_goals trivial
            clear hK K hHeld
            have hHeld := hHeld1; clear hHeld1
            try simp only [Act.put, List.setIfInBounds_toArray, List.set_cons_zero, List.set_cons_succ]
            refine wpAnyH_take (i := 7) (v := ?_) (opAt rfl) (by kernel_rfl) (by kernel_rfl) (by kernel_rfl) (fun _ _ _ h => h) (Or.inl ⟨by rfl, ?_⟩) (by assumption) ?_
            rotate_left
            · (intro w hSw; (try dsimp only at hSw); go_simp) <;> with_reducible rfl
            try simp only [Act.put, List.setIfInBounds_toArray, List.set_cons_zero, List.set_cons_succ]
            refine wpAnyH_ready (rs := [8]) (by kernel_rfl) (by simp) ?_
            refine AllReadyH.cons (opAt rfl) (fun K hK => ?_) ?_
            · go_simp
              refine hK.out _ _ ?_ (fun hHeld1 => ?_)
              · (try dsimp only)
                all_goals trivial
              clear hK K hHeld
              have hHeld := hHeld1; clear hHeld1
              try simp only [Act.put, List.setIfInBounds_toArray, List.set_cons_zero, List.set_cons_succ]
              refine wpAnyH_ready (rs := [9]) (by kernel_rfl) (by simp) ?_
              refine AllReadyH.cons (opAt rfl) (fun K hK => ?_) ?_
              · (refine step_pushG fEnt (by rfl) (.tmp 17) (.tmp 24) (by rfl) Ent.enc Ent.enc_length w0 (lo := z2.val.heap.size) [(⟨1, s⟩ : Ent)] E.r (by rfl) (by rfl) (heap_alloc_at (by simp)) (FX.orr (T := 40) (eE := 31) (lo := z2.val.heap.size) (rb := rb) (G := G) (w := w) (d := E.d) (vr := .slice p1 E.r.length c1) (vw := .slice p2 E.w.length c2) (r := E.r) (u := E.w)  (by repeat (first | (with_reducible exact HF5.out) | (with_reducible refine FX.upR ?_ _) | (with_reducible refine FX.alloc ?_ _) | (with_reducible refine FX.drew ?_)))) (Rd.ext (rb := rb) (lim := lim + 165) (by (refine Rd.mono (a := ?_) ?_ ?_; rotate_left; (repeat (first | (with_reducible exact HR6.out) | (with_reducible refine Rd.alloc ?_ _) | (with_reducible refine Rd.set ?_ _ _ NeS.ne (by first | exact LeS.le | exact LeS.add _)))); omega))) (by omega) (by first | omega | (have := z6.grown.size; simp at this ⊢; omega)) (by rfl) (by decide) (by rfl) (oneEs' _) (by simp; omega) (by simp; omega) ?_; intro v9 z9 o9 g9 b9; have hl9 := (o9.sl Ent.enc_length).openc; obtain ⟨p9, n9, c9, rfl⟩ : ∃ p n c, v9 = Value.slice p n c := (by obtain ⟨p, c, hv, _, _⟩ := hl9; exact ⟨p, _, c, hv⟩); clear hl9; have HF9 := Lib.hid (FX.addR (T := 40) (eE := 31) (lo := z2.val.heap.size) (rb := rb) (G := G) (w := w) (d := E.d) (vr := .slice p1 E.r.length c1) (vw := .slice p2 E.w.length c2) (r := E.r) (u := E.w)  (by repeat (first | (with_reducible exact HF5.out) | (with_reducible refine FX.upR ?_ _) | (with_reducible refine FX.alloc ?_ _) | (with_reducible refine FX.drew ?_))) g9 o9 b9); have HR9 := Lib.hid (FX.rd (T := 40) (eE := 31) (lo := z2.val.heap.size) (rb := rb) (G := G) (w := w) (d := E.d) (vr := .slice p1 E.r.length c1) (vw := .slice p2 E.w.length c2) (r := E.r) (u := E.w)  (lim := lim + 165) (by repeat (first | (with_reducible exact HF5.out) | (with_reducible refine FX.upR ?_ _) | (with_reducible refine FX.alloc ?_ _) | (with_reducible refine FX.drew ?_))) (by (refine Rd.mono (a := ?_) ?_ ?_; rotate_left; (repeat (first | (with_reducible exact HR6.out) | (with_reducible refine Rd.alloc ?_ _) | (with_reducible refine Rd.set ?_ _ _ NeS.ne (by first | exact LeS.le | exact LeS.add _)))); omega)) (FX.orr (T := 40) (eE := 31) (lo := z2.val.heap.size) (rb := rb) (G := G) (w := w) (d := E.d) (vr := .slice p1 E.r.length c1) (vw := .slice p2 E.w.length c2) (r := E.r) (u := E.w)  (by repeat (first | (with_reducible exact HF5.out) | (with_reducible refine FX.upR ?_ _) | (with_reducible refine FX.alloc ?_ _) | (with_reducible refine FX.drew ?_)))) g9 z9.ext 1 (.slice p9 n9 c9)); have bx := (FX.kept (T := 40) (eE := 31) (lo := z2.val.heap.size) (rb := rb) (G := G) (w := w) (d := E.d) (vr := .slice p1 E.r.length c1) (vw := .slice p2 E.w.length c2) (r := E.r) (u := E.w)  (by repeat (first | (with_reducible exact HF5.out) | (with_reducible refine FX.upR ?_ _) | (with_reducible refine FX.alloc ?_ _) | (with_reducible refine FX.drew ?_))) (FX.orr (T := 40) (eE := 31) (lo := z2.val.heap.size) (rb := rb) (G := G) (w := w) (d := E.d) (vr := .slice p1 E.r.length c1) (vw := .slice p2 E.w.length c2) (r := E.r) (u := E.w)  (by repeat (first | (with_reducible exact HF5.out) | (with_reducible refine FX.upR ?_ _) | (with_reducible refine FX.alloc ?_ _) | (with_reducible refine FX.drew ?_)))) HF5.out.offr g9).2.1; have fG := frozen_of_row _ _ 1 _ _ bx; have cG : z9.val.cell? ⟨G, 1, none⟩ = some (.slice p1 E.r.length c1) := cell_of_row _ _ 1 _ _ _ bx; clear bx; have hLG9 : LtS G z9.val := LtS.of_some cG)
                refine hK.out _ _ ?_ (fun hHeld1 => ?_)
                · (try dsimp only)
                  all_goals trivial
                clear hK K hHeld
                have hHeld := hHeld1; clear hHeld1
                try simp only [Act.put, List.setIfInBounds_toArray, List.set_cons_zero, List.set_cons_succ]
                refine wpAnyH_take (i := 10) (v := ?_) (opAt rfl) (by kernel_rfl) (by kernel_rfl) (by kernel_rfl) (fun _ _ _ h => h) (Or.inl ⟨by rfl, ?_⟩) (by assumption) ?_
                rotate_left
                · (intro w hSw; (try dsimp only at hSw); go_simp) <;> with_reducible rfl
                try simp only [Act.put, List.setIfInBounds_toArray, List.set_cons_zero, List.set_cons_succ]
                refine wpAnyH_ready (rs := [11]) (by kernel_rfl) (by simp) ?_
                refine AllReadyH.cons (opAt rfl) (fun K hK => ?_) ?_
                · go_simp
                  refine hK.out _ _ ?_ (fun hHeld1 => ?_)
                  · (try dsimp only)
                    all_goals trivial
                  clear hK K hHeld
                  have hHeld := hHeld1; clear hHeld1
                  try simp only [Act.put, List.setIfInBounds_toArray, List.set_cons_zero, List.set_cons_succ]
                  refine wpAnyH_done (by kernel_rfl) ?_ _
                  go_wp2_with fail
                  go_meet
                  exact ⟨_, _, _, _, _, _, _, _, _, HF9.out, HR9.out.mono (by omega), by first | omega | (simp; omega), by first | omega | (simp; omega)⟩
                exact AllReadyH.nil
              exact AllReadyH.nil
            exact AllReadyH.nil
          exact AllReadyH.nil
        exact AllReadyH.nil
      refine AllReadyH.cons (opAt rfl) (fun K hK => ?_) ?_
      · go_simp
        refine hK.out _ _ ?_ (fun hHeld1 => ?_)
        · (try dsimp only)
          all_goals trivial
        clear hK K hHeld
        have hHeld := hHeld1; clear hHeld1
        try simp only [Act.put, List.setIfInBounds_toArray, List.set_cons_zero, List.set_cons_succ]
        refine wpAnyH_take (i := 5) (v := ?_) (opAt rfl) (by kernel_rfl) (by kernel_rfl) (by kernel_rfl) (fun _ _ _ h => h) (Or.inl ⟨by rfl, ?_⟩) (by assumption) ?_
        rotate_left
        · (intro w hSw; (try dsimp only at hSw); go_simp) <;> with_reducible rfl
        try simp only [Act.put, List.setIfInBounds_toArray, List.set_cons_zero, List.set_cons_succ]
        refine wpAnyH_ready (rs := [1, 6]) (by kernel_rfl) (by simp) ?_
        refine AllReadyH.cons (opAt rfl) (fun K hK => ?_) ?_
        · go_simp
          refine hK.out _ _ ?_ (fun hHeld1 => ?_)
          · (try dsimp only)
            all_goals trivial
          clear hK K hHeld
          have hHeld := hHeld1; clear hHeld1
          try simp only [Act.put, List.setIfInBounds_toArray, List.set_cons_zero, List.set_cons_succ]
          refine wpAnyH_ready (rs := [6]) (by kernel_rfl) (by simp) ?_
          refine AllReadyH.cons (opAt rfl) (fun K hK => ?_) ?_
          · go_simp
            refine hK.out _ _ ?_ (fun hHeld1 => ?_)
            · (try dsimp only)
              all_goals trivial
            clear hK K hHeld
            have hHeld := hHeld1; clear hHeld1
            try simp only [Act.put, List.setIfInBounds_toArray, List.set_cons_zero, List.set_cons_succ]
            refine wpAnyH_take (i := 7) (v := ?_) (opAt rfl) (by kernel_rfl) (by kernel_rfl) (by kernel_rfl) (fun _ _ _ h => h) (Or.inl ⟨by rfl, ?_⟩) (by assumption) ?_
            rotate_left
            · (intro w hSw; (try dsimp only at hSw); go_simp) <;> with_reducible rfl
            try simp only [Act.put, List.setIfInBounds_toArray, List.set_cons_zero, List.set_cons_succ]
            refine wpAnyH_ready (rs := [8]) (by kernel_rfl) (by simp) ?_
            refine AllReadyH.cons (opAt rfl) (fun K hK => ?_) ?_
            · go_simp
              refine hK.out _ _ ?_ (fun hHeld1 => ?_)
              · (try dsimp only)
                all_goals trivial
              clear hK K hHeld
              have hHeld := hHeld1; clear hHeld1
              try simp only [Act.put, List.setIfInBounds_toArray, List.set_cons_zero, List.set_cons_succ]
              refine wpAnyH_ready (rs := [9]) (by kernel_rfl) (by simp) ?_
              refine AllReadyH.cons (opAt rfl) (fun K hK => ?_) ?_
              · (refine step_pushG fEnt (by rfl) (.tmp 17) (.tmp 24) (by rfl) Ent.enc Ent.enc_length w0 (lo := z2.val.heap.size) [(⟨1, s⟩ : Ent)] E.r (by rfl) (by rfl) (heap_alloc_at (by simp)) (FX.orr (T := 40) (eE := 31) (lo := z2.val.heap.size) (rb := rb) (G := G) (w := w) (d := E.d) (vr := .slice p1 E.r.length c1) (vw := .slice p2 E.w.length c2) (r := E.r) (u := E.w)  (by repeat (first | (with_reducible exact HF5.out) | (with_reducible refine FX.upR ?_ _) | (with_reducible refine FX.alloc ?_ _) | (with_reducible refine FX.drew ?_)))) (Rd.ext (rb := rb) (lim := lim + 165) (by (refine Rd.mono (a := ?_) ?_ ?_; rotate_left; (repeat (first | (with_reducible exact HR6.out) | (with_reducible refine Rd.alloc ?_ _) | (with_reducible refine Rd.set ?_ _ _ NeS.ne (by first | exact LeS.le | exact LeS.add _)))); omega))) (by omega) (by first | omega | (have := z6.grown.size; simp at this ⊢; omega)) (by rfl) (by decide) (by rfl) (oneEs' _) (by simp; omega) (by simp; omega) ?_; intro v9 z9 o9 g9 b9; have hl9 := (o9.sl Ent.enc_length).openc; obtain ⟨p9, n9, c9, rfl⟩ : ∃ p n c, v9 = Value.slice p n c := (by obtain ⟨p, c, hv, _, _⟩ := hl9; exact ⟨p, _, c, hv⟩); clear hl9; have HF9 := Lib.hid (FX.addR (T := 40) (eE := 31) (lo := z2.val.heap.size) (rb := rb) (G := G) (w := w) (d := E.d) (vr := .slice p1 E.r.length c1) (vw := .slice p2 E.w.length c2) (r := E.r) (u := E.w)  (by repeat (first | (with_reducible exact HF5.out) | (with_reducible refine FX.upR ?_ _) | (with_reducible refine FX.alloc ?_ _) | (with_reducible refine FX.drew ?_))) g9 o9 b9); have HR9 := Lib.hid (FX.rd (T := 40) (eE := 31) (lo := z2.val.heap.size) (rb := rb) (G := G) (w := w) (d := E.d) (vr := .slice p1 E.r.length c1) (vw := .slice p2 E.w.length c2) (r := E.r) (u := E.w)  (lim := lim + 165) (by repeat (first | (with_reducible exact HF5.out) | (with_reducible refine FX.upR ?_ _) | (with_reducible refine FX.alloc ?_ _) | (with_reducible refine FX.drew ?_))) (by (refine Rd.mono (a := ?_) ?_ ?_; rotate_left; (repeat (first | (with_reducible exact HR6.out) | (with_reducible refine Rd.alloc ?_ _) | (with_reducible refine Rd.set ?_ _ _ NeS.ne (by first | exact LeS.le | exact LeS.add _)))); omega)) (FX.orr (T := 40) (eE := 31) (lo := z2.val.heap.size) (rb := rb) (G := G) (w := w) (d := E.d) (vr := .slice p1 E.r.length c1) (vw := .slice p2 E.w.length c2) (r := E.r) (u := E.w)  (by repeat (first | (with_reducible exact HF5.out) | (with_reducible refine FX.upR ?_ _) | (with_reducible refine FX.alloc ?_ _) | (with_reducible refine FX.drew ?_)))) g9 z9.ext 1 (.slice p9 n9 c9)); have bx := (FX.kept (T := 40) (eE := 31) (lo := z2.val.heap.size) (rb := rb) (G := G) (w := w) (d := E.d) (vr := .slice p1 E.r.length c1) (vw := .slice p2 E.w.length c2) (r := E.r) (u := E.w)  (by repeat (first | (with_reducible exact HF5.out) | (with_reducible refine FX.upR ?_ _) | (with_reducible refine FX.alloc ?_ _) | (with_reducible refine FX.drew ?_))) (FX.orr (T := 40) (eE := 31) (lo := z2.val.heap.size) (rb := rb) (G := G) (w := w) (d := E.d) (vr := .slice p1 E.r.length c1) (vw := .slice p2 E.w.length c2) (r := E.r) (u := E.w)  (by repeat (first | (with_reducible exact HF5.out) | (with_reducible refine FX.upR ?_ _) | (with_reducible refine FX.alloc ?_ _) | (with_reducible refine FX.drew ?_)))) HF5.out.offr g9).2.1; have fG := frozen_of_row _ _ 1 _ _ bx; have cG : z9.val.cell? ⟨G, 1, none⟩ = some (.slice p1 E.r.length c1) := cell_of_row _ _ 1 _ _ _ bx; clear bx; have hLG9 : LtS G z9.val := LtS.of_some cG)
                refine hK.out _ _ ?_ (fun hHeld1 => ?_)
                · (try dsimp only)
                  all_goals trivial
                clear hK K hHeld
                have hHeld := hHeld1; clear hHeld1
                try simp only [Act.put, List.setIfInBounds_toArray, List.set_cons_zero, List.set_cons_succ]
                refine wpAnyH_take (i := 10) (v := ?_) (opAt rfl) (by kernel_rfl) (by kernel_rfl) (by kernel_rfl) (fun _ _ _ h => h) (Or.inl ⟨by rfl, ?_⟩) (by assumption) ?_
                rotate_left
                · (intro w hSw; (try dsimp only at hSw); go_simp) <;> with_reducible rfl
                try simp only [Act.put, List.setIfInBounds_toArray, List.set_cons_zero, List.set_cons_succ]
                refine wpAnyH_ready (rs := [11]) (by kernel_rfl) (by simp) ?_
                refine AllReadyH.cons (opAt rfl) (fun K hK => ?_) ?_
                · go_simp
                  refine hK.out _ _ ?_ (fun hHeld1 => ?_)
                  · (try dsimp only)
                    all_goals trivial
                  clear hK K hHeld
                  have hHeld := hHeld1; clear hHeld1
                  try simp only [Act.put, List.setIfInBounds_toArray, List.set_cons_zero, List.set_cons_succ]
                  refine wpAnyH_done (by kernel_rfl) ?_ _
                  go_wp2_with fail
                  go_meet
                  exact ⟨_, _, _, _, _, _, _, _, _, HF9.out, HR9.out.mono (by omega), by first | omega | (simp; omega), by first | omega | (simp; omega)⟩
                exact AllReadyH.nil
              exact AllReadyH.nil
            exact AllReadyH.nil
          exact AllReadyH.nil
        refine AllReadyH.cons (opAt rfl) (fun K hK => ?_) ?_
        · go_simp
          refine hK.out _ _ ?_ (fun hHeld1 => ?_)
          · (try dsimp only)
            all_goals trivial
          clear hK K hHeld
          have hHeld := hHeld1; clear hHeld1
          try simp only [Act.put, List.setIfInBounds_toArray, List.set_cons_zero, List.set_cons_succ]
          refine wpAnyH_take (i := 7) (v := ?_) (opAt rfl) (by kernel_rfl) (by kernel_rfl) (by kernel_rfl) (fun _ _ _ h => h) (Or.inl ⟨by rfl, ?_⟩) (by assumption) ?_
          rotate_left
          · (intro w hSw; (try dsimp only at hSw); go_simp) <;> with_reducible rfl
          try simp only [Act.put, List.setIfInBounds_toArray, List.set_cons_zero, List.set_cons_succ]
          refine wpAnyH_ready (rs := [1, 8]) (by kernel_rfl) (by simp) ?_
          refine AllReadyH.cons (opAt rfl) (fun K hK => ?_) ?_
          · go_simp
            refine hK.out _ _ ?_ (fun hHeld1 => ?_)
            · (try dsimp only)
              all_goals trivial
            clear hK K hHeld
            have hHeld := hHeld1; clear hHeld1
            try simp only [Act.put, List.setIfInBounds_toArray, List.set_cons_zero, List.set_cons_succ]
            refine wpAnyH_ready (rs := [8]) (by kernel_rfl) (by simp) ?_
            refine AllReadyH.cons (opAt rfl) (fun K hK => ?_) ?_
            · go_simp
              refine hK.out _ _ ?_ (fun hHeld1 => ?_)
              · (try dsimp only)
                all_goals trivial
              clear hK K hHeld
              have hHeld := hHeld1; clear hHeld1
              try simp only [Act.put, List.setIfInBounds_toArray, List.set_cons_zero, List.set_cons_succ]
              refine wpAnyH_ready (rs := [9]) (by kernel_rfl) (by simp) ?_
              refine AllReadyH.cons (opAt rfl) (fun K hK => ?_) ?_
              · (refine step_pushG fEnt (by rfl) (.tmp 17) (.tmp 24) (by rfl) Ent.enc Ent.enc_length w0 (lo := z2.val.heap.size) [(⟨1, s⟩ : Ent)] E.r (by rfl) (by rfl) (heap_alloc_at (by simp)) (FX.orr (T := 40) (eE := 31) (lo := z2.val.heap.size) (rb := rb) (G := G) (w := w) (d := E.d) (vr := .slice p1 E.r.length c1) (vw := .slice p2 E.w.length c2) (r := E.r) (u := E.w)  (by repeat (first | (with_reducible exact HF5.out) | (with_reducible refine FX.upR ?_ _) | (with_reducible refine FX.alloc ?_ _) | (with_reducible refine FX.drew ?_)))) (Rd.ext (rb := rb) (lim := lim + 165) (by (refine Rd.mono (a := ?_) ?_ ?_; rotate_left; (repeat (first | (with_reducible exact HR6.out) | (with_reducible refine Rd.alloc ?_ _) | (with_reducible refine Rd.set ?_ _ _ NeS.ne (by first | exact LeS.le | exact LeS.add _)))); omega))) (by omega) (by first | omega | (have := z6.grown.size; simp at this ⊢; omega)) (by rfl) (by decide) (by rfl) (oneEs' _) (by simp; omega) (by simp; omega) ?_; intro v9 z9 o9 g9 b9; have hl9 := (o9.sl Ent.enc_length).openc; obtain ⟨p9, n9, c9, rfl⟩ : ∃ p n c, v9 = Value.slice p n c := (by obtain ⟨p, c, hv, _, _⟩ := hl9; exact ⟨p, _, c, hv⟩); clear hl9; have HF9 := Lib.hid (FX.addR (T := 40) (eE := 31) (lo := z2.val.heap.size) (rb := rb) (G := G) (w := w) (d := E.d) (vr := .slice p1 E.r.length c1) (vw := .slice p2 E.w.length c2) (r := E.r) (u := E.w)  (by repeat (first | (with_reducible exact HF5.out) | (with_reducible refine FX.upR ?_ _) | (with_reducible refine FX.alloc ?_ _) | (with_reducible refine FX.drew ?_))) g9 o9 b9); have HR9 := Lib.hid (FX.rd (T := 40) (eE := 31) (lo := z2.val.heap.size) (rb := rb) (G := G) (w := w) (d := E.d) (vr := .slice p1 E.r.length c1) (vw := .slice p2 E.w.length c2) (r := E.r) (u := E.w)  (lim := lim + 165) (by repeat (first | (with_reducible exact HF5.out) | (with_reducible refine FX.upR ?_ _) | (with_reducible refine FX.alloc ?_ _) | (with_reducible refine FX.drew ?_))) (by (refine Rd.mono (a := ?_) ?_ ?_; rotate_left; (repeat (first | (with_reducible exact HR6.out) | (with_reducible refine Rd.alloc ?_ _) | (with_reducible refine Rd.set ?_ _ _ NeS.ne (by first | exact LeS.le | exact LeS.add _)))); omega)) (FX.orr (T := 40) (eE := 31) (lo := z2.val.heap.size) (rb := rb) (G := G) (w := w) (d := E.d) (vr := .slice p1 E.r.length c1) (vw := .slice p2 E.w.length c2) (r := E.r) (u := E.w)  (by repeat (first | (with_reducible exact HF5.out) | (with_reducible refine FX.upR ?_ _) | (with_reducible refine FX.alloc ?_ _) | (with_reducible refine FX.drew ?_)))) g9 z9.ext 1 (.slice p9 n9 c9)); have bx := (FX.kept (T := 40) (eE := 31) (lo := z2.val.heap.size) (rb := rb) (G := G) (w := w) (d := E.d) (vr := .slice p1 E.r.length c1) (vw := .slice p2 E.w.length c2) (r := E.r) (u := E.w)  (by repeat (first | (with_reducible exact HF5.out) | (with_reducible refine FX.upR ?_ _) | (with_reducible refine FX.alloc ?_ _) | (with_reducible refine FX.drew ?_))) (FX.orr (T := 40) (eE := 31) (lo := z2.val.heap.size) (rb := rb) (G := G) (w := w) (d := E.d) (vr := .slice p1 E.r.length c1) (vw := .slice p2 E.w.length c2) (r := E.r) (u := E.w)  (by repeat (first | (with_reducible exact HF5.out) | (with_reducible refine FX.upR ?_ _) | (with_reducible refine FX.alloc ?_ _) | (with_reducible refine FX.drew ?_)))) HF5.out.offr g9).2.1; have fG := frozen_of_row _ _ 1 _ _ bx; have cG : z9.val.cell? ⟨G, 1, none⟩ = some (.slice p1 E.r.length c1) := cell_of_row _ _ 1 _ _ _ bx; clear bx; have hLG9 : LtS G z9.val := LtS.of_some cG)
                refine hK.out _ _ ?_ (fun hHeld1 => ?_)
                · (try dsimp only)
                  all_goals trivial
                clear hK K hHeld
                have hHeld := hHeld1; clear hHeld1
                try simp only [Act.put, List.setIfInBounds_toArray, List.set_cons_zero, List.set_cons_succ]
                refine wpAnyH_take (i := 10) (v := ?_) (opAt rfl) (by kernel_rfl) (by kernel_rfl) (by kernel_rfl) (fun _ _ _ h => h) (Or.inl ⟨by rfl, ?_⟩) (by assumption) ?_
                rotate_left
                · (intro w hSw; (try dsimp only at hSw); go_simp) <;> with_reducible rfl
                try simp only [Act.put, List.setIfInBounds_toArray, List.set_cons_zero, List.set_cons_succ]
                refine wpAnyH_ready (rs := [11]) (by kernel_rfl) (by simp) ?_
                refine AllReadyH.cons (opAt rfl) (fun K hK => ?_) ?_
                · go_simp
                  refine hK.out _ _ ?_ (fun hHeld1 => ?_)
                  · (try dsimp only)
                    all_goals trivial
                  clear hK K hHeld
                  have hHeld := hHeld1; clear hHeld1
                  try simp only [Act.put, List.setIfInBounds_toArray, List.set_cons_zero, List.set_cons_succ]
                  refine wpAnyH_done (by kernel_rfl) ?_ _
                  go_wp2_with fail
                  go_meet
                  exact ⟨_, _, _, _, _, _, _, _, _, HF9.out, HR9.out.mono (by omega), by first | omega | (simp; omega), by first | omega | (simp; omega)⟩
                exact AllReadyH.nil
              exact AllReadyH.nil
            exact AllReadyH.nil
          refine AllReadyH.cons (opAt rfl) (fun K hK => ?_) ?_
          · go_simp
            refine hK.out _ _ ?_ (fun hHeld1 => ?_)
            · (try dsimp only)
              all_goals trivial
            clear hK K hHeld
            have hHeld := hHeld1; clear hHeld1
            try simp only [Act.put, List.setIfInBounds_toArray, List.set_cons_zero, List.set_cons_succ]
            refine wpAnyH_ready (rs := [1]) (by kernel_rfl) (by simp) ?_
            refine AllReadyH.cons (opAt rfl) (fun K hK => ?_) ?_
            · go_simp
              refine hK.out _ _ ?_ (fun hHeld1 => ?_)
              · (try dsimp only)
                all_goals trivial
              clear hK K hHeld
              have hHeld := hHeld1; clear hHeld1
              try simp only [Act.put, List.setIfInBounds_toArray, List.set_cons_zero, List.set_cons_succ]
              refine wpAnyH_ready (rs := [9]) (by kernel_rfl) (by simp) ?_
              refine AllReadyH.cons (opAt rfl) (fun K hK => ?_) ?_
              · (refine step_pushG fEnt (by rfl) (.tmp 17) (.tmp 24) (by rfl) Ent.enc Ent.enc_length w0 (lo := z2.val.heap.size) [(⟨1, s⟩ : Ent)] E.r (by rfl) (by rfl) (heap_alloc_at (by simp)) (FX.orr (T := 40) (eE := 31) (lo := z2.val.heap.size) (rb := rb) (G := G) (w := w) (d := E.d) (vr := .slice p1 E.r.length c1) (vw := .slice p2 E.w.length c2) (r := E.r) (u := E.w)  (by repeat (first | (with_reducible exact HF5.out) | (with_reducible refine FX.upR ?_ _) | (with_reducible refine FX.alloc ?_ _) | (with_reducible refine FX.drew ?_)))) (Rd.ext (rb := rb) (lim := lim + 165) (by (refine Rd.mono (a := ?_) ?_ ?_; rotate_left; (repeat (first | (with_reducible exact HR6.out) | (with_reducible refine Rd.alloc ?_ _) | (with_reducible refine Rd.set ?_ _ _ NeS.ne (by first | exact LeS.le | exact LeS.add _)))); omega))) (by omega) (by first | omega | (have := z6.grown.size; simp at this ⊢; omega)) (by rfl) (by decide) (by rfl) (oneEs' _) (by simp; omega) (by simp; omega) ?_; intro v9 z9 o9 g9 b9; have hl9 := (o9.sl Ent.enc_length).openc; obtain ⟨p9, n9, c9, rfl⟩ : ∃ p n c, v9 = Value.slice p n c := (by obtain ⟨p, c, hv, _, _⟩ := hl9; exact ⟨p, _, c, hv⟩); clear hl9; have HF9 := Lib.hid (FX.addR (T := 40) (eE := 31) (lo := z2.val.heap.size) (rb := rb) (G := G) (w := w) (d := E.d) (vr := .slice p1 E.r.length c1) (vw := .slice p2 E.w.length c2) (r := E.r) (u := E.w)  (by repeat (first | (with_reducible exact HF5.out) | (with_reducible refine FX.upR ?_ _) | (with_reducible refine FX.alloc ?_ _) | (with_reducible refine FX.drew ?_))) g9 o9 b9); have HR9 := Lib.hid (FX.rd (T := 40) (eE := 31) (lo := z2.val.heap.size) (rb := rb) (G := G) (w := w) (d := E.d) (vr := .slice p1 E.r.length c1) (vw := .slice p2 E.w.length c2) (r := E.r) (u := E.w)  (lim := lim + 165) (by repeat (first | (with_reducible exact HF5.out) | (with_reducible refine FX.upR ?_ _) | (with_reducible refine FX.alloc ?_ _) | (with_reducible refine FX.drew ?_))) (by (refine Rd.mono (a := ?_) ?_ ?_; rotate_left; (repeat (first | (with_reducible exact HR6.out) | (with_reducible refine Rd.alloc ?_ _) | (with_reducible refine Rd.set ?_ _ _ NeS.ne (by first | exact LeS.le | exact LeS.add _)))); omega)) (FX.orr (T := 40) (eE := 31) (lo := z2.val.heap.size) (rb := rb) (G := G) (w := w) (d := E.d) (vr := .slice p1 E.r.length c1) (vw := .slice p2 E.w.length c2) (r := E.r) (u := E.w)  (by repeat (first | (with_reducible exact HF5.out) | (with_reducible refine FX.upR ?_ _) | (with_reducible refine FX.alloc ?_ _) | (with_reducible refine FX.drew ?_)))) g9 z9.ext 1 (.slice p9 n9 c9)); have bx := (FX.kept (T := 40) (eE := 31) (lo := z2.val.heap.size) (rb := rb) (G := G) (w := w) (d := E.d) (vr := .slice p1 E.r.length c1) (vw := .slice p2 E.w.length c2) (r := E.r) (u := E.w)  (by repeat (first | (with_reducible exact HF5.out) | (with_reducible refine FX.upR ?_ _) | (with_reducible refine FX.alloc ?_ _) | (with_reducible refine FX.drew ?_))) (FX.orr (T := 40) (eE := 31) (lo := z2.val.heap.size) (rb := rb) (G := G) (w := w) (d := E.d) (vr := .slice p1 E.r.length c1) (vw := .slice p2 E.w.length c2) (r := E.r) (u := E.w)  (by repeat (first | (with_reducible exact HF5.out) | (with_reducible refine FX.upR ?_ _) | (with_reducible refine FX.alloc ?_ _) | (with_reducible refine FX.drew ?_)))) HF5.out.offr g9).2.1; have fG := frozen_of_row _ _ 1 _ _ bx; have cG : z9.val.cell? ⟨G, 1, none⟩ = some (.slice p1 E.r.length c1) := cell_of_row _ _ 1 _ _ _ bx; clear bx; have hLG9 : LtS G z9.val := LtS.of_some cG)
                refine hK.out _ _ ?_ (fun hHeld1 => ?_)
                · (try dsimp only)
                  all_goals trivial
                clear hK K hHeld
                have hHeld := hHeld1; clear hHeld1
                try simp only [Act.put, List.setIfInBounds_toArray, List.set_cons_zero, List.set_cons_succ]
                refine wpAnyH_take (i := 10) (v := ?_) (opAt rfl) (by kernel_rfl) (by kernel_rfl) (by kernel_rfl) (fun _ _ _ h => h) (Or.inl ⟨by rfl, ?_⟩) (by assumption) ?_
                rotate_left
                · (intro w hSw; (try dsimp only at hSw); go_simp) <;> with_reducible rfl
                try simp only [Act.put, List.setIfInBounds_toArray, List.set_cons_zero, List.set_cons_succ]
                refine wpAnyH_ready (rs := [11]) (by kernel_rfl) (by simp) ?_
                refine AllReadyH.cons (opAt rfl) (fun K hK => ?_) ?_
                · go_simp
                  refine hK.out _ _ ?_ (fun hHeld1 => ?_)
                  · (try dsimp only)
                    all_goals trivial
                  clear hK K hHeld
                  have hHeld := hHeld1; clear hHeld1
                  try simp only [Act.put, List.setIfInBounds_toArray, List.set_cons_zero, List.set_cons_succ]
                  refine wpAnyH_done (by kernel_rfl) ?_ _
                  go_wp2_with fail
                  go_meet
                  exact ⟨_, _, _, _, _, _, _, _, _, HF9.out, HR9.out.mono (by omega), by first | omega | (simp; omega), by first | omega | (simp; omega)⟩
                exact AllReadyH.nil
              exact AllReadyH.nil
            exact AllReadyH.nil
          exact AllReadyH.nil
        exact AllReadyH.nil
      exact AllReadyH.nil
    exact AllReadyH.nil
end Go.Proofs.Ytkboefmkfpnpjaa
