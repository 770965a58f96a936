/- Walks: drawn trees that are valid (n at will). -/
import Derived.Test.YteiemjebdhmnaaaGSoTop28
import Derived.Test.YteiemjebdhmnaaaGSoTop29
import Derived.Test.YteiemjebdhmnaaaGSoTop18
import Derived.Test.YteiemjebdhmnaaaGSoTop08
set_option linter.unusedSimpArgs false
set_option linter.unusedVariables false
namespace Go.Proofs.Yteiemjebdhmnaaa
open Go Go.RowKit Go.Proofs

set_option maxRecDepth 100000 in
set_option maxHeartbeats 8000000 in
theorem tree_any (w0 w : World) (rb : Nat) (lim n : Int) (h : Rd w0 w rb lim) (hl : lim ≤ 10000) (hn0 : 0 ≤ n) (hnm : n ≤ 1000000) :
    Calls Try.prog 47 #[.pointer (some ⟨rb, 0, none⟩), .int .i64 n] w fun e w' => ∃ (u0 u1 u2 : Value) (t : Tree) (bs : List TB), e = .returned (.agg #[u0, u1, u2]) ∧ (n = 0 → t.ok = true) ∧ (1 ≤ t.bs.length ∧ t.bs.length ≤ 14) ∧ bs.map TB.core = t.bs ∧ (∃ z : ExtR rb w, w' = z.val) ∧ Rd w0 w' rb (lim + 5900) ∧ OTA 61 39 85 3 w.heap.size w' u0 u1 u2 t.base bs t.pr := by
  have H := Lib.hid h
  have hL : LtS rb w := ⟨h.lt⟩
  have hlt := h.lt
  have hold := h.old
  have hLe : w0.heap.size ≤ w.heap.size := h.ext.size
  clear h
  go_enter Try.func47, Try.ntmps47
  go_wp2_with fail
  refine (drawStore_any w0 _ rb lim 0 (H.out.up (by repeat (first | (with_reducible exact Ext.refl _) | (with_reducible refine Ext.up ?_ _) | (with_reducible refine Ext.alloc ?_ _) | (with_reducible refine Ext.drew ?_) | (with_reducible refine Ext.setRow ?_ (by first | exact LeS.le | exact LeS.add _ | (simp; done) | (simp; omega)) _) | (with_reducible refine Ext.setCell ?_ (by first | exact LeS.le | exact LeS.add _ | (simp; done) | (simp; omega)) _)))) (by omega) (by omega) (by omega)).mono ?_; rintro e w' ⟨vs, s, rfl, hs33, hs0, ⟨z1, rfl⟩, hr, hown⟩
  have H1 := Lib.hid hr; have HO1 := Lib.hid hown; have hs := hs0 rfl
  clear hr hown hs0
  go_wp2_with fail
  refine (sTreeOf_any s vs _ (HO1.out.sl Ent.enc_length) (by omega)).mono ?_; rintro e w' ⟨u0, u1, u2, bs, rfl, ⟨z2, rfl⟩, hbs, _, _, hot⟩
  have ht1 : (treeOf s).ok = true := by
    have : treeOf s = treeOne s := by unfold treeOf; rw [hs]; rfl
    rw [this]; exact treeOne_ok hs
  obtain ⟨q0, d0, rfl, _, _⟩ := (hot.ota.obase.sl Ent.enc_length).openc
  obtain ⟨q1, d1, rfl, _, _⟩ := (hot.ota.obs.1.sl TB.enc_length).openc
  obtain ⟨q2, d2, rfl, _, _⟩ := (hot.ota.opr.sl encI_length).openc
  generalize treeOf s = t at *
  have hz1 : w.heap.size + 1 ≤ z1.val.heap.size := by have := z1.grown.size; simpa using this
  have hz2 := z2.ext.size
  have hres : z2.val.heap[w.heap.size]? = some (.cells #[.slice none 0 0, .slice none 0 0, .slice none 0 0] 27 (0, 0)) := (z2.ext.block (by omega)).trans ((z1.block (by simp) (by omega)).trans (heap_alloc_new _ _))
  have HT := Lib.hid (LT.start (eT := 27) (rb := rb) (w := w) (grownBy_trans (GB.upR (GB.alloc (grownBy_refl w _) _) z1) (grownBy_ext z2.ext)) hres hot.ota hz1 hbs ht1)
  have HR := Lib.hid (H1.out.up z2.ext)
  have hG : w.heap.size < z2.val.heap.size := by omega
  clear hot hbs ht1 hs hres H1 HO1
  go_wp2_with fail
  refine (pick_any w0 _ rb _ 8 (HR.out.up (by repeat (first | (with_reducible exact Ext.refl _) | (with_reducible refine Ext.up ?_ _) | (with_reducible refine Ext.alloc ?_ _) | (with_reducible refine Ext.drew ?_) | (with_reducible refine Ext.setRow ?_ (by first | exact LeS.le | exact LeS.add _ | (simp; done) | (simp; omega)) _) | (with_reducible refine Ext.setCell ?_ (by first | exact LeS.le | exact LeS.add _ | (simp; done) | (simp; omega)) _)))) (by omega) (by omega) (by omega)).mono ?_; rintro e w' ⟨k0, rfl, k00, k01, _, ⟨z3, rfl⟩, hr⟩
  have HR1 := Lib.hid hr
  have hk7 := k01 (by omega)
  clear hr k01
  have HT1 := Lib.hid (HT.out.upR hlt hG z3)
  generalize z2.val.heap.size = G at *
  go_wp2_with fail
  go_loopw [6] (fun s6 wr => ∃ (k : Int) (u0 u1 u2 : Value) (t : Tree) (bs : List TB), s6 = .int .i64 k ∧ 0 ≤ k ∧ k ≤ 7 ∧ LT 27 61 39 85 3 rb G w wr u0 u1 u2 t bs ∧ Rd w0 wr rb (lim + 5000 - 600 * k)) (fun s6 _ => (intOf s6).toNat)
  case atStart => exact ⟨k0, _, _, _, t, bs, rfl, k00, by omega, HT1.out, HR1.out.mono (by omega)⟩
  case round =>
    obtain ⟨k, u0, u1, u2, t, bs, rfl, hk0, hk7, hT, hr⟩ := hrel
    obtain ⟨z, rfl⟩ := ExtR.of hT.gb
    obtain ⟨p0, c0, rfl, _, _⟩ := (hT.ot.obase.sl Ent.enc_length).openc
    obtain ⟨p1, c1, rfl, hl1, _, hc1⟩ := hT.st.bs.open
    obtain ⟨p2, c2, rfl, _, _⟩ := (hT.ot.opr.sl encI_length).openc
    obtain ⟨-, hn1, hn14⟩ := Tree.lens hT.ok
    have hLG : LtS G z.val := ⟨hT.ltG⟩
    have hNG : NeS G rb := ⟨by omega⟩
    have hLb : LtS rb z.val := ⟨hr.lt⟩
    have g0 : z.val.cell? ⟨G, 0, none⟩ = some (.slice p0 t.base.length c0) := cell_of_row _ _ 0 _ _ _ hT.box
    have g1 : z.val.cell? ⟨G, 1, none⟩ = some (.slice p1 t.bs.length c1) := cell_of_row _ _ 1 _ _ _ hT.box
    have g2 : z.val.cell? ⟨G, 2, none⟩ = some (.slice p2 t.pr.length c2) := cell_of_row _ _ 2 _ _ _ hT.box
    have gf0 : z.val.frozen? ⟨G, 0, none⟩ = false := frozen_of_row _ _ 0 _ _ hT.box
    have gf1 : z.val.frozen? ⟨G, 1, none⟩ = false := frozen_of_row _ _ 1 _ _ hT.box
    have gf2 : z.val.frozen? ⟨G, 2, none⟩ = false := frozen_of_row _ _ 2 _ _ hT.box
    have HT := Lib.hid hT; have HR := Lib.hid hr
    clear hT hr
    have hw1 : IntKind.i64.wrap ((t.bs.length : Int) - 1) = (t.bs.length : Int) - 1 := IntWalk.i64_in _ (by omega)
    by_cases hkz : 0 < k
    · go_upto_region 5 with fail
      go_cut [7] (fun s7 wr' => ∃ (m : Nat), s7 = .int .i64 m ∧ m < t.bs.length ∧ (∃ z5 : ExtR rb z.val, wr' = z5.val) ∧ Rd w0 wr' rb (lim + 5000 - 600 * k + 2))
      case first =>
        refine wp_region_held_drew (S := (fun w' => (∀ n i, ∀ [LtS n z.val] [NeS n rb], w'.cell? ⟨n, i, none⟩ = World.cell? z.val ⟨n, i, none⟩) ∧ World.grownBy z.val w' (some rb))) (by kernel_rfl) ?_ (fun hHeld => ?_)
        · (try dsimp only)
          refine S_of_gb ?_
          repeat (first | (with_reducible exact grownBy_refl _ _) | (with_reducible refine GB.setNew ?_ (by first | exact LeS.le | exact LeS.add _ | (simp; done) | (simp; omega)) _ _) | (with_reducible refine GB.alloc ?_ _) | (with_reducible refine GB.drew ?_) | (with_reducible refine GB.upR ?_ _) | (with_reducible refine GB.up ?_ _))
        refine wpAnyH_take (i := 0) (v := ?_) (opAt rfl) (by kernel_rfl) (by kernel_rfl) (by kernel_rfl) (fun _ _ _ h => h) (Or.inl ⟨by rfl, ?_⟩) (by assumption) ?_
        rotate_left
        · (intro w hSw; (try dsimp only at hSw); go_simp) <;> with_reducible rfl
        try simp only [Act.put, List.setIfInBounds_toArray, List.set_cons_zero, List.set_cons_succ]
        refine wpAnyH_take (i := 1) (v := ?_) (opAt rfl) (by kernel_rfl) (by kernel_rfl) (by kernel_rfl) (fun _ _ _ h => h) (Or.inl ⟨by rfl, ?_⟩) (by assumption) ?_
        rotate_left
        · (intro w hSw; (try dsimp only at hSw); go_simp) <;> with_reducible rfl
        try simp only [Act.put, List.setIfInBounds_toArray, List.set_cons_zero, List.set_cons_succ]
        refine wpAnyH_take (i := 2) (v := ?_) (opAt rfl) (by kernel_rfl) (by kernel_rfl) (by kernel_rfl) (fun _ _ _ h => h) (Or.inl ⟨by rfl, ?_⟩) (by assumption) ?_
        rotate_left
        · (intro w hSw; (try dsimp only at hSw); go_simp) <;> with_reducible rfl
        try simp only [Act.put, List.setIfInBounds_toArray, List.set_cons_zero, List.set_cons_succ]
        refine wpAnyH_take (i := 3) (v := ?_) (opAt rfl) (by kernel_rfl) (by kernel_rfl) (by kernel_rfl) (fun _ _ _ h => h) (Or.inl ⟨by rfl, ?_⟩) (by assumption) ?_
        rotate_left
        · (intro w hSw; (try dsimp only at hSw); go_simp) <;> with_reducible rfl
        try simp only [Act.put, List.setIfInBounds_toArray, List.set_cons_zero, List.set_cons_succ]
        refine wpAnyH_take (i := 4) (v := ?_) (opAt rfl) (by kernel_rfl) (by kernel_rfl) (by kernel_rfl) (fun _ _ _ h => h) (Or.inl ⟨by rfl, ?_⟩) (by assumption) ?_
        rotate_left
        · (intro w hSw; (try dsimp only at hSw); go_simp) <;> with_reducible rfl
        try simp only [Act.put, List.setIfInBounds_toArray, List.set_cons_zero, List.set_cons_succ]
        refine wpAnyH_take (i := 5) (v := ?_) (opAt rfl) (by kernel_rfl) (by kernel_rfl) (by kernel_rfl) (fun _ _ _ h => h) (Or.inl ⟨by rfl, ?_⟩) (by assumption) ?_
        rotate_left
        · (intro w hSw; (try dsimp only at hSw); go_simp) <;> with_reducible rfl
        try simp only [Act.put, List.setIfInBounds_toArray, List.set_cons_zero, List.set_cons_succ]
        refine wpAnyH_take (i := 6) (v := ?_) (opAt rfl) (by kernel_rfl) (by kernel_rfl) (by kernel_rfl) (fun _ _ _ h => h) (Or.inl ⟨by rfl, ?_⟩) (by assumption) ?_
        rotate_left
        · (intro w hSw; (try dsimp only at hSw); go_simp) <;> with_reducible rfl
        try simp only [Act.put, List.setIfInBounds_toArray, List.set_cons_zero, List.set_cons_succ]
        refine wpAnyH_take (i := 7) (v := ?_) (opAt rfl) (by kernel_rfl) (by kernel_rfl) (by kernel_rfl) (fun _ _ _ h => h) (Or.inl ⟨by rfl, ?_⟩) (by assumption) ?_
        rotate_left
        · (intro w hSw; (try dsimp only at hSw); go_simp) <;> with_reducible rfl
        try simp only [Act.put, List.setIfInBounds_toArray, List.set_cons_zero, List.set_cons_succ]
        refine wpAnyH_take (i := 10) (v := ?_) (opAt rfl) (by kernel_rfl) (by kernel_rfl) (by kernel_rfl) (fun _ _ _ h => h) (Or.inl ⟨by rfl, ?_⟩) (by assumption) ?_
        rotate_left
        · (intro w hSw; (try dsimp only at hSw); go_simp) <;> with_reducible rfl
        try simp only [Act.put, List.setIfInBounds_toArray, List.set_cons_zero, List.set_cons_succ]
        refine wpAnyH_ready (rs := [8]) (by kernel_rfl) (by simp) ?_
        refine AllReadyH.cons (opAt rfl) (fun K hK => ?_) ?_
        · go_simp
          (go_at_call 55; refine (pick_any w0 _ rb _ (t.bs.length : Int) (HR.out.up (by repeat (first | (with_reducible exact Ext.refl _) | (with_reducible refine Ext.up ?_ _) | (with_reducible refine Ext.alloc ?_ _) | (with_reducible refine Ext.drew ?_) | (with_reducible refine Ext.setRow ?_ (by first | exact LeS.le | exact LeS.add _ | (simp; done) | (simp; omega)) _) | (with_reducible refine Ext.setCell ?_ (by first | exact LeS.le | exact LeS.add _ | (simp; done) | (simp; omega)) _)))) (by omega) (by omega) (by omega)).mono ?_; rintro e w' ⟨m, rfl, m0, m1, _, ⟨z5, rfl⟩, hr5⟩; have HR5 := Lib.hid hr5; have hm2 := m1 (by omega); clear hr5 m1)
          try go_wp2_with fail
          refine hK.out _ _ ?_ (fun hHeld1 => ?_)
          · (try dsimp only)
            refine S_of_gb ?_
            repeat (first | (with_reducible exact grownBy_refl _ _) | (with_reducible refine GB.setNew ?_ (by first | exact LeS.le | exact LeS.add _ | (simp; done) | (simp; omega)) _ _) | (with_reducible refine GB.alloc ?_ _) | (with_reducible refine GB.drew ?_) | (with_reducible refine GB.upR ?_ _) | (with_reducible refine GB.up ?_ _))
          clear hK K hHeld
          have hHeld := hHeld1; clear hHeld1
          try simp only [Act.put, List.setIfInBounds_toArray, List.set_cons_zero, List.set_cons_succ]
          refine wpAnyH_ready (rs := [9, 11]) (by kernel_rfl) (by simp) ?_
          refine AllReadyH.cons (opAt rfl) (fun K hK => ?_) ?_
          · go_simp
            refine hK.out _ _ ?_ (fun hHeld1 => ?_)
            · (try dsimp only)
              refine S_of_gb ?_
              repeat (first | (with_reducible exact grownBy_refl _ _) | (with_reducible refine GB.setNew ?_ (by first | exact LeS.le | exact LeS.add _ | (simp; done) | (simp; omega)) _ _) | (with_reducible refine GB.alloc ?_ _) | (with_reducible refine GB.drew ?_) | (with_reducible refine GB.upR ?_ _) | (with_reducible refine GB.up ?_ _))
            clear hK K hHeld
            have hHeld := hHeld1; clear hHeld1
            try simp only [Act.put, List.setIfInBounds_toArray, List.set_cons_zero, List.set_cons_succ]
            refine wpAnyH_ready (rs := [11]) (by kernel_rfl) (by simp) ?_
            refine AllReadyH.cons (opAt rfl) (fun K hK => ?_) ?_
            · go_simp
              (go_at_call 55; refine (pick_any w0 _ rb _ 4 (HR5.out.up (by repeat (first | (with_reducible exact Ext.refl _) | (with_reducible refine Ext.up ?_ _) | (with_reducible refine Ext.alloc ?_ _) | (with_reducible refine Ext.drew ?_) | (with_reducible refine Ext.setRow ?_ (by first | exact LeS.le | exact LeS.add _ | (simp; done) | (simp; omega)) _) | (with_reducible refine Ext.setCell ?_ (by first | exact LeS.le | exact LeS.add _ | (simp; done) | (simp; omega)) _)))) (by omega) (by omega) (by omega)).mono ?_; rintro e w' ⟨q, rfl, q0, q1, _, ⟨z6, rfl⟩, hr6⟩; have HR6 := Lib.hid hr6; have hq4 := q1 (by omega); clear hr6 q1; obtain ⟨j, hj, hj2⟩ : ∃ j : Nat, IntKind.i64.wrap (q.tdiv 3) = (j : Int) ∧ j < 2 := ⟨(q.tdiv 3).toNat, by have := quo_pos q0 (show (0 : Int) < 3 by omega); rw [IntWalk.i64_in _ (by omega)]; omega, by rw [Int.tdiv_eq_ediv_of_nonneg q0]; omega⟩; have hj3 : (0 : Int) ≤ (j : Int) := (by omega); have hj4 : (j : Int) < 2 := (by omega))
              try go_wp2_with fail
              refine hK.out _ _ ?_ (fun hHeld1 => ?_)
              · (try dsimp only)
                refine S_of_gb ?_
                repeat (first | (with_reducible exact grownBy_refl _ _) | (with_reducible refine GB.setNew ?_ (by first | exact LeS.le | exact LeS.add _ | (simp; done) | (simp; omega)) _ _) | (with_reducible refine GB.alloc ?_ _) | (with_reducible refine GB.drew ?_) | (with_reducible refine GB.upR ?_ _) | (with_reducible refine GB.up ?_ _))
              clear hK K hHeld
              have hHeld := hHeld1; clear hHeld1
              try simp only [Act.put, List.setIfInBounds_toArray, List.set_cons_zero, List.set_cons_succ]
              refine wpAnyH_take (i := 12) (v := ?_) (opAt rfl) (by kernel_rfl) (by kernel_rfl) (by kernel_rfl) (fun _ _ _ h => h) (Or.inl ⟨by rfl, ?_⟩) (by assumption) ?_
              rotate_left
              · (intro w hSw; (try dsimp only at hSw); go_simp) <;> with_reducible rfl
              try simp only [Act.put, List.setIfInBounds_toArray, List.set_cons_zero, List.set_cons_succ]
              refine wpAnyH_take (i := 13) (v := ?_) (opAt rfl) (by kernel_rfl) (by kernel_rfl) (by kernel_rfl) (fun _ _ _ h => h) (Or.inl ⟨by rfl, ?_⟩) (by assumption) ?_
              rotate_left
              · (intro w hSw; (try dsimp only at hSw); go_simp) <;> with_reducible rfl
              try simp only [Act.put, List.setIfInBounds_toArray, List.set_cons_zero, List.set_cons_succ]
              refine wpAnyH_ready (rs := [14]) (by kernel_rfl) (by simp) ?_
              refine AllReadyH.cons (opAt rfl) (fun K hK => ?_) ?_
              · go_simp
                refine hK.out _ _ ?_ (fun hHeld1 => ?_)
                · (try dsimp only)
                  refine S_of_gb ?_
                  repeat (first | (with_reducible exact grownBy_refl _ _) | (with_reducible refine GB.setNew ?_ (by first | exact LeS.le | exact LeS.add _ | (simp; done) | (simp; omega)) _ _) | (with_reducible refine GB.alloc ?_ _) | (with_reducible refine GB.drew ?_) | (with_reducible refine GB.upR ?_ _) | (with_reducible refine GB.up ?_ _))
                clear hK K hHeld
                have hHeld := hHeld1; clear hHeld1
                try simp only [Act.put, List.setIfInBounds_toArray, List.set_cons_zero, List.set_cons_succ]
                refine wpAnyH_take (i := 15) (v := ?_) (opAt rfl) (by kernel_rfl) (by kernel_rfl) (by kernel_rfl) (fun _ _ _ h => h) (Or.inl ⟨by rfl, ?_⟩) (by assumption) ?_
                rotate_left
                · (intro w hSw; (try dsimp only at hSw); go_simp) <;> with_reducible rfl
                try simp only [Act.put, List.setIfInBounds_toArray, List.set_cons_zero, List.set_cons_succ]
                refine wpAnyH_done (by kernel_rfl) ?_ _
                go_wp2_with fail
                go_meet
                rcases (show j = 0 ∨ j = 1 by omega) with rfl | rfl
                · exact ⟨t.bs.length - 1, by simp; omega, by omega, ExtR.of (by repeat (first | (with_reducible exact grownBy_refl _ _) | (with_reducible refine GB.setNew ?_ (by first | exact LeS.le | exact LeS.add _ | (simp; done) | (simp; omega)) _ _) | (with_reducible refine GB.alloc ?_ _) | (with_reducible refine GB.drew ?_) | (with_reducible refine GB.upR ?_ _) | (with_reducible refine GB.up ?_ _))), (HR6.out.up (by repeat (first | (with_reducible exact Ext.refl _) | (with_reducible refine Ext.up ?_ _) | (with_reducible refine Ext.alloc ?_ _) | (with_reducible refine Ext.drew ?_) | (with_reducible refine Ext.setRow ?_ (by first | exact LeS.le | exact LeS.add _ | (simp; done) | (simp; omega)) _) | (with_reducible refine Ext.setCell ?_ (by first | exact LeS.le | exact LeS.add _ | (simp; done) | (simp; omega)) _)))).mono (by omega)⟩
                · exact ⟨m.toNat, by simp; omega, by omega, ExtR.of (by repeat (first | (with_reducible exact grownBy_refl _ _) | (with_reducible refine GB.setNew ?_ (by first | exact LeS.le | exact LeS.add _ | (simp; done) | (simp; omega)) _ _) | (with_reducible refine GB.alloc ?_ _) | (with_reducible refine GB.drew ?_) | (with_reducible refine GB.upR ?_ _) | (with_reducible refine GB.up ?_ _))), (HR6.out.up (by repeat (first | (with_reducible exact Ext.refl _) | (with_reducible refine Ext.up ?_ _) | (with_reducible refine Ext.alloc ?_ _) | (with_reducible refine Ext.drew ?_) | (with_reducible refine Ext.setRow ?_ (by first | exact LeS.le | exact LeS.add _ | (simp; done) | (simp; omega)) _) | (with_reducible refine Ext.setCell ?_ (by first | exact LeS.le | exact LeS.add _ | (simp; done) | (simp; omega)) _)))).mono (by omega)⟩
              exact AllReadyH.nil
            exact AllReadyH.nil
          refine AllReadyH.cons (opAt rfl) (fun K hK => ?_) ?_
          · go_simp
            (go_at_call 55; refine (pick_any w0 _ rb _ 4 (HR5.out.up (by repeat (first | (with_reducible exact Ext.refl _) | (with_reducible refine Ext.up ?_ _) | (with_reducible refine Ext.alloc ?_ _) | (with_reducible refine Ext.drew ?_) | (with_reducible refine Ext.setRow ?_ (by first | exact LeS.le | exact LeS.add _ | (simp; done) | (simp; omega)) _) | (with_reducible refine Ext.setCell ?_ (by first | exact LeS.le | exact LeS.add _ | (simp; done) | (simp; omega)) _)))) (by omega) (by omega) (by omega)).mono ?_; rintro e w' ⟨q, rfl, q0, q1, _, ⟨z6, rfl⟩, hr6⟩; have HR6 := Lib.hid hr6; have hq4 := q1 (by omega); clear hr6 q1; obtain ⟨j, hj, hj2⟩ : ∃ j : Nat, IntKind.i64.wrap (q.tdiv 3) = (j : Int) ∧ j < 2 := ⟨(q.tdiv 3).toNat, by have := quo_pos q0 (show (0 : Int) < 3 by omega); rw [IntWalk.i64_in _ (by omega)]; omega, by rw [Int.tdiv_eq_ediv_of_nonneg q0]; omega⟩; have hj3 : (0 : Int) ≤ (j : Int) := (by omega); have hj4 : (j : Int) < 2 := (by omega))
            try go_wp2_with fail
            refine hK.out _ _ ?_ (fun hHeld1 => ?_)
            · (try dsimp only)
              refine S_of_gb ?_
              repeat (first | (with_reducible exact grownBy_refl _ _) | (with_reducible refine GB.setNew ?_ (by first | exact LeS.le | exact LeS.add _ | (simp; done) | (simp; omega)) _ _) | (with_reducible refine GB.alloc ?_ _) | (with_reducible refine GB.drew ?_) | (with_reducible refine GB.upR ?_ _) | (with_reducible refine GB.up ?_ _))
            clear hK K hHeld
            have hHeld := hHeld1; clear hHeld1
            try simp only [Act.put, List.setIfInBounds_toArray, List.set_cons_zero, List.set_cons_succ]
            refine wpAnyH_take (i := 12) (v := ?_) (opAt rfl) (by kernel_rfl) (by kernel_rfl) (by kernel_rfl) (fun _ _ _ h => h) (Or.inl ⟨by rfl, ?_⟩) (by assumption) ?_
            rotate_left
            · (intro w hSw; (try dsimp only at hSw); go_simp) <;> with_reducible rfl
            try simp only [Act.put, List.setIfInBounds_toArray, List.set_cons_zero, List.set_cons_succ]
            refine wpAnyH_ready (rs := [9]) (by kernel_rfl) (by simp) ?_
            refine AllReadyH.cons (opAt rfl) (fun K hK => ?_) ?_
            · go_simp
              refine hK.out _ _ ?_ (fun hHeld1 => ?_)
              · (try dsimp only)
                refine S_of_gb ?_
                repeat (first | (with_reducible exact grownBy_refl _ _) | (with_reducible refine GB.setNew ?_ (by first | exact LeS.le | exact LeS.add _ | (simp; done) | (simp; omega)) _ _) | (with_reducible refine GB.alloc ?_ _) | (with_reducible refine GB.drew ?_) | (with_reducible refine GB.upR ?_ _) | (with_reducible refine GB.up ?_ _))
              clear hK K hHeld
              have hHeld := hHeld1; clear hHeld1
              try simp only [Act.put, List.setIfInBounds_toArray, List.set_cons_zero, List.set_cons_succ]
              refine wpAnyH_take (i := 13) (v := ?_) (opAt rfl) (by kernel_rfl) (by kernel_rfl) (by kernel_rfl) (fun _ _ _ h => h) (Or.inl ⟨by rfl, ?_⟩) (by assumption) ?_
              rotate_left
              · (intro w hSw; (try dsimp only at hSw); go_simp) <;> with_reducible rfl
              try simp only [Act.put, List.setIfInBounds_toArray, List.set_cons_zero, List.set_cons_succ]
              refine wpAnyH_ready (rs := [14]) (by kernel_rfl) (by simp) ?_
              refine AllReadyH.cons (opAt rfl) (fun K hK => ?_) ?_
              · go_simp
                refine hK.out _ _ ?_ (fun hHeld1 => ?_)
                · (try dsimp only)
                  refine S_of_gb ?_
                  repeat (first | (with_reducible exact grownBy_refl _ _) | (with_reducible refine GB.setNew ?_ (by first | exact LeS.le | exact LeS.add _ | (simp; done) | (simp; omega)) _ _) | (with_reducible refine GB.alloc ?_ _) | (with_reducible refine GB.drew ?_) | (with_reducible refine GB.upR ?_ _) | (with_reducible refine GB.up ?_ _))
                clear hK K hHeld
                have hHeld := hHeld1; clear hHeld1
                try simp only [Act.put, List.setIfInBounds_toArray, List.set_cons_zero, List.set_cons_succ]
                refine wpAnyH_take (i := 15) (v := ?_) (opAt rfl) (by kernel_rfl) (by kernel_rfl) (by kernel_rfl) (fun _ _ _ h => h) (Or.inl ⟨by rfl, ?_⟩) (by assumption) ?_
                rotate_left
                · (intro w hSw; (try dsimp only at hSw); go_simp) <;> with_reducible rfl
                try simp only [Act.put, List.setIfInBounds_toArray, List.set_cons_zero, List.set_cons_succ]
                refine wpAnyH_done (by kernel_rfl) ?_ _
                go_wp2_with fail
                go_meet
                rcases (show j = 0 ∨ j = 1 by omega) with rfl | rfl
                · exact ⟨t.bs.length - 1, by simp; omega, by omega, ExtR.of (by repeat (first | (with_reducible exact grownBy_refl _ _) | (with_reducible refine GB.setNew ?_ (by first | exact LeS.le | exact LeS.add _ | (simp; done) | (simp; omega)) _ _) | (with_reducible refine GB.alloc ?_ _) | (with_reducible refine GB.drew ?_) | (with_reducible refine GB.upR ?_ _) | (with_reducible refine GB.up ?_ _))), (HR6.out.up (by repeat (first | (with_reducible exact Ext.refl _) | (with_reducible refine Ext.up ?_ _) | (with_reducible refine Ext.alloc ?_ _) | (with_reducible refine Ext.drew ?_) | (with_reducible refine Ext.setRow ?_ (by first | exact LeS.le | exact LeS.add _ | (simp; done) | (simp; omega)) _) | (with_reducible refine Ext.setCell ?_ (by first | exact LeS.le | exact LeS.add _ | (simp; done) | (simp; omega)) _)))).mono (by omega)⟩
                · exact ⟨m.toNat, by simp; omega, by omega, ExtR.of (by repeat (first | (with_reducible exact grownBy_refl _ _) | (with_reducible refine GB.setNew ?_ (by first | exact LeS.le | exact LeS.add _ | (simp; done) | (simp; omega)) _ _) | (with_reducible refine GB.alloc ?_ _) | (with_reducible refine GB.drew ?_) | (with_reducible refine GB.upR ?_ _) | (with_reducible refine GB.up ?_ _))), (HR6.out.up (by repeat (first | (with_reducible exact Ext.refl _) | (with_reducible refine Ext.up ?_ _) | (with_reducible refine Ext.alloc ?_ _) | (with_reducible refine Ext.drew ?_) | (with_reducible refine Ext.setRow ?_ (by first | exact LeS.le | exact LeS.add _ | (simp; done) | (simp; omega)) _) | (with_reducible refine Ext.setCell ?_ (by first | exact LeS.le | exact LeS.add _ | (simp; done) | (simp; omega)) _)))).mono (by omega)⟩
              exact AllReadyH.nil
            exact AllReadyH.nil
          exact AllReadyH.nil
        exact AllReadyH.nil
      case rest =>
        obtain ⟨m, rfl, hm, ⟨z5, rfl⟩, hr5⟩ := hcut
        have HR5 := Lib.hid hr5
        have HT5 := Lib.hid (HT.out.upR hlt hG z5)
        have hLG5 : LtS G z5.val := ⟨HT5.out.ltG⟩
        have hLb5 : LtS rb z5.val := ⟨hr5.lt⟩
        obtain ⟨y, hym⟩ := getElem?_some_of_lt hm
        obtain ⟨b, off, px, cx, hp1, hb', e0, e1, e2, e3, e4, e5, hx⟩ := hc1 m y hym
        subst hp1
        have hNb : NeS b rb := ⟨by have := (World.ownsRow.lt HT.out.ot.obs.1 b rfl).1; omega⟩
        have m0 : (0 : Int) ≤ (m : Int) := by omega
        have m1 : (m : Int) < t.bs.length := by omega
        clear hc1 hx hr5 hym
        go_upto_region 6 with fail
        go_cut [8] (fun s8 wr' => ∃ (vw : Int), s8 = .int .i64 vw ∧ (∃ z6 : ExtR rb z5.val, wr' = z6.val) ∧ Rd w0 wr' rb (lim + 5000 - 600 * k + 3))
        case first =>
          refine wp_region_held_drew (S := (fun w' => (∀ n i, ∀ [LtS n z5.val] [NeS n rb], w'.cell? ⟨n, i, none⟩ = World.cell? z5.val ⟨n, i, none⟩) ∧ World.grownBy z5.val w' (some rb))) (by kernel_rfl) ?_ (fun hHeld => ?_)
          · (try dsimp only)
            refine S_of_gb ?_
            repeat (first | (with_reducible exact grownBy_refl _ _) | (with_reducible refine GB.setNew ?_ (by first | exact LeS.le | exact LeS.add _ | (simp; done) | (simp; omega)) _ _) | (with_reducible refine GB.alloc ?_ _) | (with_reducible refine GB.drew ?_) | (with_reducible refine GB.upR ?_ _) | (with_reducible refine GB.up ?_ _))
          refine wpAnyH_take (i := 0) (v := ?_) (opAt rfl) (by kernel_rfl) (by kernel_rfl) (by kernel_rfl) (fun _ _ _ h => h) (Or.inl ⟨by rfl, ?_⟩) (by assumption) ?_
          rotate_left
          · (intro w hSw; (try dsimp only at hSw); go_simp) <;> with_reducible rfl
          try simp only [Act.put, List.setIfInBounds_toArray, List.set_cons_zero, List.set_cons_succ]
          refine wpAnyH_take (i := 1) (v := ?_) (opAt rfl) (by kernel_rfl) (by kernel_rfl) (by kernel_rfl) (fun _ _ _ h => h) (Or.inl ⟨by rfl, ?_⟩) (by assumption) ?_
          rotate_left
          · (intro w hSw; (try dsimp only at hSw); go_simp) <;> with_reducible rfl
          try simp only [Act.put, List.setIfInBounds_toArray, List.set_cons_zero, List.set_cons_succ]
          refine wpAnyH_take (i := 2) (v := ?_) (opAt rfl) (by kernel_rfl) (by kernel_rfl) (by kernel_rfl) (fun _ _ _ h => h) (Or.inl ⟨by rfl, ?_⟩) (by assumption) ?_
          rotate_left
          · (intro w hSw; (try dsimp only at hSw); go_simp) <;> with_reducible rfl
          try simp only [Act.put, List.setIfInBounds_toArray, List.set_cons_zero, List.set_cons_succ]
          refine wpAnyH_take (i := 3) (v := ?_) (opAt rfl) (by kernel_rfl) (by kernel_rfl) (by kernel_rfl) (fun _ _ _ h => h) (Or.inl ⟨by rfl, ?_⟩) (by assumption) ?_
          rotate_left
          · (intro w hSw; (try dsimp only at hSw); go_simp) <;> with_reducible rfl
          try simp only [Act.put, List.setIfInBounds_toArray, List.set_cons_zero, List.set_cons_succ]
          refine wpAnyH_take (i := 4) (v := ?_) (opAt rfl) (by kernel_rfl) (by kernel_rfl) (by kernel_rfl) (fun _ _ _ h => h) (Or.inl ⟨by rfl, ?_⟩) (by assumption) ?_
          rotate_left
          · (intro w hSw; (try dsimp only at hSw); go_simp) <;> with_reducible rfl
          try simp only [Act.put, List.setIfInBounds_toArray, List.set_cons_zero, List.set_cons_succ]
          refine wpAnyH_take (i := 5) (v := ?_) (opAt rfl) (by kernel_rfl) (by kernel_rfl) (by kernel_rfl) (fun _ _ _ h => h) (Or.inl ⟨by rfl, ?_⟩) (by assumption) ?_
          rotate_left
          · (intro w hSw; (try dsimp only at hSw); go_simp) <;> with_reducible rfl
          try simp only [Act.put, List.setIfInBounds_toArray, List.set_cons_zero, List.set_cons_succ]
          refine wpAnyH_take (i := 7) (v := ?_) (opAt rfl) (by kernel_rfl) (by kernel_rfl) (by kernel_rfl) (fun _ _ _ h => h) (Or.inl ⟨by rfl, ?_⟩) (by assumption) ?_
          rotate_left
          · (intro w hSw; (try dsimp only at hSw); go_simp) <;> with_reducible rfl
          try simp only [Act.put, List.setIfInBounds_toArray, List.set_cons_zero, List.set_cons_succ]
          refine wpAnyH_ready (rs := [6, 8]) (by kernel_rfl) (by simp) ?_
          refine AllReadyH.cons (opAt rfl) (fun K hK => ?_) ?_
          · go_simp
            refine hK.out _ _ ?_ (fun hHeld1 => ?_)
            · (try dsimp only)
              refine S_of_gb ?_
              repeat (first | (with_reducible exact grownBy_refl _ _) | (with_reducible refine GB.setNew ?_ (by first | exact LeS.le | exact LeS.add _ | (simp; done) | (simp; omega)) _ _) | (with_reducible refine GB.alloc ?_ _) | (with_reducible refine GB.drew ?_) | (with_reducible refine GB.upR ?_ _) | (with_reducible refine GB.up ?_ _))
            clear hK K hHeld
            have hHeld := hHeld1; clear hHeld1
            try simp only [Act.put, List.setIfInBounds_toArray, List.set_cons_zero, List.set_cons_succ]
            refine wpAnyH_ready (rs := [8]) (by kernel_rfl) (by simp) ?_
            refine AllReadyH.cons (opAt rfl) (fun K hK => ?_) ?_
            · go_simp
              (go_at_call 55; refine (pick_any w0 _ rb _ 4 (HR5.out.up (by repeat (first | (with_reducible exact Ext.refl _) | (with_reducible refine Ext.up ?_ _) | (with_reducible refine Ext.alloc ?_ _) | (with_reducible refine Ext.drew ?_) | (with_reducible refine Ext.setRow ?_ (by first | exact LeS.le | exact LeS.add _ | (simp; done) | (simp; omega)) _) | (with_reducible refine Ext.setCell ?_ (by first | exact LeS.le | exact LeS.add _ | (simp; done) | (simp; omega)) _)))) (by omega) (by omega) (by omega)).mono ?_; rintro e w' ⟨q, rfl, q0, q1, _, ⟨z6, rfl⟩, hr6⟩; have HR6 := Lib.hid hr6; have hq4 := q1 (by omega); clear hr6 q1; obtain ⟨j, hj, hj2⟩ : ∃ j : Nat, q = (j : Int) ∧ j < 4 := ⟨q.toNat, by omega, by omega⟩; subst hj; obtain ⟨s, hs⟩ : ∃ s : Int, ∀ h, ([.int .i64 1, .int .i64 1, .int .i64 1, .int .i64 2] : List Value)[j]'h = .int .i64 s := (by rcases (show j = 0 ∨ j = 1 ∨ j = 2 ∨ j = 3 by omega) with rfl | rfl | rfl | rfl; exact ⟨1, fun _ => rfl⟩; exact ⟨1, fun _ => rfl⟩; exact ⟨1, fun _ => rfl⟩; exact ⟨2, fun _ => rfl⟩))
              try go_wp2_with fail
              refine hK.out _ _ ?_ (fun hHeld1 => ?_)
              · (try dsimp only)
                refine S_of_gb ?_
                repeat (first | (with_reducible exact grownBy_refl _ _) | (with_reducible refine GB.setNew ?_ (by first | exact LeS.le | exact LeS.add _ | (simp; done) | (simp; omega)) _ _) | (with_reducible refine GB.alloc ?_ _) | (with_reducible refine GB.drew ?_) | (with_reducible refine GB.upR ?_ _) | (with_reducible refine GB.up ?_ _))
              clear hK K hHeld
              have hHeld := hHeld1; clear hHeld1
              try simp only [Act.put, List.setIfInBounds_toArray, List.set_cons_zero, List.set_cons_succ]
              refine wpAnyH_take (i := 9) (v := ?_) (opAt rfl) (by kernel_rfl) (by kernel_rfl) (by kernel_rfl) (fun _ _ _ h => h) (Or.inl ⟨by rfl, ?_⟩) (by assumption) ?_
              rotate_left
              · (intro w hSw; (try dsimp only at hSw); go_simp) <;> with_reducible rfl
              try simp only [Act.put, List.setIfInBounds_toArray, List.set_cons_zero, List.set_cons_succ]
              refine wpAnyH_ready (rs := [10]) (by kernel_rfl) (by simp) ?_
              refine AllReadyH.cons (opAt rfl) (fun K hK => ?_) ?_
              · go_simp
                refine hK.out _ _ ?_ (fun hHeld1 => ?_)
                · (try dsimp only)
                  refine S_of_gb ?_
                  repeat (first | (with_reducible exact grownBy_refl _ _) | (with_reducible refine GB.setNew ?_ (by first | exact LeS.le | exact LeS.add _ | (simp; done) | (simp; omega)) _ _) | (with_reducible refine GB.alloc ?_ _) | (with_reducible refine GB.drew ?_) | (with_reducible refine GB.upR ?_ _) | (with_reducible refine GB.up ?_ _))
                clear hK K hHeld
                have hHeld := hHeld1; clear hHeld1
                try simp only [Act.put, List.setIfInBounds_toArray, List.set_cons_zero, List.set_cons_succ]
                refine wpAnyH_take (i := 11) (v := ?_) (opAt rfl) (by kernel_rfl) (by kernel_rfl) (by kernel_rfl) (fun _ _ _ h => h) (Or.inl ⟨by rfl, ?_⟩) (by assumption) ?_
                rotate_left
                · (intro w hSw; (try dsimp only at hSw); go_simp) <;> with_reducible rfl
                try simp only [Act.put, List.setIfInBounds_toArray, List.set_cons_zero, List.set_cons_succ]
                refine wpAnyH_take (i := 12) (v := ?_) (opAt rfl) (by kernel_rfl) (by kernel_rfl) (by kernel_rfl) (fun _ _ _ h => h) (Or.inl ⟨by rfl, ?_⟩) (by assumption) ?_
                rotate_left
                · (intro w hSw; (try dsimp only at hSw); go_simp) <;> with_reducible rfl
                try simp only [Act.put, List.setIfInBounds_toArray, List.set_cons_zero, List.set_cons_succ]
                refine wpAnyH_done (by kernel_rfl) ?_ _
                go_wp2_with fail
                go_meet
                exact ⟨_, rfl, ExtR.of (by repeat (first | (with_reducible exact grownBy_refl _ _) | (with_reducible refine GB.setNew ?_ (by first | exact LeS.le | exact LeS.add _ | (simp; done) | (simp; omega)) _ _) | (with_reducible refine GB.alloc ?_ _) | (with_reducible refine GB.drew ?_) | (with_reducible refine GB.upR ?_ _) | (with_reducible refine GB.up ?_ _))), (HR6.out.up (by repeat (first | (with_reducible exact Ext.refl _) | (with_reducible refine Ext.up ?_ _) | (with_reducible refine Ext.alloc ?_ _) | (with_reducible refine Ext.drew ?_) | (with_reducible refine Ext.setRow ?_ (by first | exact LeS.le | exact LeS.add _ | (simp; done) | (simp; omega)) _) | (with_reducible refine Ext.setCell ?_ (by first | exact LeS.le | exact LeS.add _ | (simp; done) | (simp; omega)) _)))).mono (by omega)⟩
              exact AllReadyH.nil
            exact AllReadyH.nil
          refine AllReadyH.cons (opAt rfl) (fun K hK => ?_) ?_
          · go_simp
            (go_at_call 55; refine (pick_any w0 _ rb _ 4 (HR5.out.up (by repeat (first | (with_reducible exact Ext.refl _) | (with_reducible refine Ext.up ?_ _) | (with_reducible refine Ext.alloc ?_ _) | (with_reducible refine Ext.drew ?_) | (with_reducible refine Ext.setRow ?_ (by first | exact LeS.le | exact LeS.add _ | (simp; done) | (simp; omega)) _) | (with_reducible refine Ext.setCell ?_ (by first | exact LeS.le | exact LeS.add _ | (simp; done) | (simp; omega)) _)))) (by omega) (by omega) (by omega)).mono ?_; rintro e w' ⟨q, rfl, q0, q1, _, ⟨z6, rfl⟩, hr6⟩; have HR6 := Lib.hid hr6; have hq4 := q1 (by omega); clear hr6 q1; obtain ⟨j, hj, hj2⟩ : ∃ j : Nat, q = (j : Int) ∧ j < 4 := ⟨q.toNat, by omega, by omega⟩; subst hj; obtain ⟨s, hs⟩ : ∃ s : Int, ∀ h, ([.int .i64 1, .int .i64 1, .int .i64 1, .int .i64 2] : List Value)[j]'h = .int .i64 s := (by rcases (show j = 0 ∨ j = 1 ∨ j = 2 ∨ j = 3 by omega) with rfl | rfl | rfl | rfl; exact ⟨1, fun _ => rfl⟩; exact ⟨1, fun _ => rfl⟩; exact ⟨1, fun _ => rfl⟩; exact ⟨2, fun _ => rfl⟩))
            try go_wp2_with fail
            refine hK.out _ _ ?_ (fun hHeld1 => ?_)
            · (try dsimp only)
              refine S_of_gb ?_
              repeat (first | (with_reducible exact grownBy_refl _ _) | (with_reducible refine GB.setNew ?_ (by first | exact LeS.le | exact LeS.add _ | (simp; done) | (simp; omega)) _ _) | (with_reducible refine GB.alloc ?_ _) | (with_reducible refine GB.drew ?_) | (with_reducible refine GB.upR ?_ _) | (with_reducible refine GB.up ?_ _))
            clear hK K hHeld
            have hHeld := hHeld1; clear hHeld1
            try simp only [Act.put, List.setIfInBounds_toArray, List.set_cons_zero, List.set_cons_succ]
            refine wpAnyH_ready (rs := [6]) (by kernel_rfl) (by simp) ?_
            refine AllReadyH.cons (opAt rfl) (fun K hK => ?_) ?_
            · go_simp
              refine hK.out _ _ ?_ (fun hHeld1 => ?_)
              · (try dsimp only)
                refine S_of_gb ?_
                repeat (first | (with_reducible exact grownBy_refl _ _) | (with_reducible refine GB.setNew ?_ (by first | exact LeS.le | exact LeS.add _ | (simp; done) | (simp; omega)) _ _) | (with_reducible refine GB.alloc ?_ _) | (with_reducible refine GB.drew ?_) | (with_reducible refine GB.upR ?_ _) | (with_reducible refine GB.up ?_ _))
              clear hK K hHeld
              have hHeld := hHeld1; clear hHeld1
              try simp only [Act.put, List.setIfInBounds_toArray, List.set_cons_zero, List.set_cons_succ]
              refine wpAnyH_take (i := 9) (v := ?_) (opAt rfl) (by kernel_rfl) (by kernel_rfl) (by kernel_rfl) (fun _ _ _ h => h) (Or.inl ⟨by rfl, ?_⟩) (by assumption) ?_
              rotate_left
              · (intro w hSw; (try dsimp only at hSw); go_simp) <;> with_reducible rfl
              try simp only [Act.put, List.setIfInBounds_toArray, List.set_cons_zero, List.set_cons_succ]
              refine wpAnyH_ready (rs := [10]) (by kernel_rfl) (by simp) ?_
              refine AllReadyH.cons (opAt rfl) (fun K hK => ?_) ?_
              · go_simp
                refine hK.out _ _ ?_ (fun hHeld1 => ?_)
                · (try dsimp only)
                  refine S_of_gb ?_
                  repeat (first | (with_reducible exact grownBy_refl _ _) | (with_reducible refine GB.setNew ?_ (by first | exact LeS.le | exact LeS.add _ | (simp; done) | (simp; omega)) _ _) | (with_reducible refine GB.alloc ?_ _) | (with_reducible refine GB.drew ?_) | (with_reducible refine GB.upR ?_ _) | (with_reducible refine GB.up ?_ _))
                clear hK K hHeld
                have hHeld := hHeld1; clear hHeld1
                try simp only [Act.put, List.setIfInBounds_toArray, List.set_cons_zero, List.set_cons_succ]
                refine wpAnyH_take (i := 11) (v := ?_) (opAt rfl) (by kernel_rfl) (by kernel_rfl) (by kernel_rfl) (fun _ _ _ h => h) (Or.inl ⟨by rfl, ?_⟩) (by assumption) ?_
                rotate_left
                · (intro w hSw; (try dsimp only at hSw); go_simp) <;> with_reducible rfl
                try simp only [Act.put, List.setIfInBounds_toArray, List.set_cons_zero, List.set_cons_succ]
                refine wpAnyH_take (i := 12) (v := ?_) (opAt rfl) (by kernel_rfl) (by kernel_rfl) (by kernel_rfl) (fun _ _ _ h => h) (Or.inl ⟨by rfl, ?_⟩) (by assumption) ?_
                rotate_left
                · (intro w hSw; (try dsimp only at hSw); go_simp) <;> with_reducible rfl
                try simp only [Act.put, List.setIfInBounds_toArray, List.set_cons_zero, List.set_cons_succ]
                refine wpAnyH_done (by kernel_rfl) ?_ _
                go_wp2_with fail
                go_meet
                exact ⟨_, rfl, ExtR.of (by repeat (first | (with_reducible exact grownBy_refl _ _) | (with_reducible refine GB.setNew ?_ (by first | exact LeS.le | exact LeS.add _ | (simp; done) | (simp; omega)) _ _) | (with_reducible refine GB.alloc ?_ _) | (with_reducible refine GB.drew ?_) | (with_reducible refine GB.upR ?_ _) | (with_reducible refine GB.up ?_ _))), (HR6.out.up (by repeat (first | (with_reducible exact Ext.refl _) | (with_reducible refine Ext.up ?_ _) | (with_reducible refine Ext.alloc ?_ _) | (with_reducible refine Ext.drew ?_) | (with_reducible refine Ext.setRow ?_ (by first | exact LeS.le | exact LeS.add _ | (simp; done) | (simp; omega)) _) | (with_reducible refine Ext.setCell ?_ (by first | exact LeS.le | exact LeS.add _ | (simp; done) | (simp; omega)) _)))).mono (by omega)⟩
              exact AllReadyH.nil
            exact AllReadyH.nil
          exact AllReadyH.nil
        case rest =>
          obtain ⟨vw, rfl, ⟨z6, rfl⟩, hr6⟩ := hcut
          have HR6 := Lib.hid hr6
          have HT6 := Lib.hid (HT5.out.upR hlt hG z6)
          have hLG6 : LtS G z6.val := ⟨HT6.out.ltG⟩
          have hLb6 : LtS rb z6.val := ⟨hr6.lt⟩
          clear hr6
          go_upto_region 7 with fail
          go_cut [48] (fun s48 wr' => ∃ (y0 y1 y2 : Value) (t' : Tree) (bs' : List TB), t.bs.length ≤ t'.bs.length ∧ LT 27 61 39 85 3 rb G w wr' y0 y1 y2 t' bs' ∧ Rd w0 wr' rb (lim + 5000 - 600 * k + 203))
          case first =>
            refine wp_region_held_drew (S := (fun w' => ∀ n i, ∀ [LtS n z6.val] [NeS n rb] [NeS n G], w'.cell? ⟨n, i, none⟩ = World.cell? z6.val ⟨n, i, none⟩)) (by kernel_rfl) ?_ (fun hHeld => ?_)
            · (try dsimp only)
              (first | (refine S_of_gbX (rb := rb) (G := G) ?_; (repeat (first | (with_reducible exact grownBy_refl _ _) | (with_reducible refine GB.setNew ?_ (by first | exact LeS.le | exact LeS.add _ | (simp; done) | (simp; omega)) _ _) | (with_reducible refine GB.alloc ?_ _) | (with_reducible refine GB.drew ?_) | (with_reducible refine GB.upR ?_ _) | (with_reducible refine GB.up ?_ _))); done) | (intro n i hnl hnr hng; simp only [cell_setX]; exact S_of_gbX (rb := rb) (G := G) (by repeat (first | (with_reducible exact grownBy_refl _ _) | (with_reducible refine GB.setNew ?_ (by first | exact LeS.le | exact LeS.add _ | (simp; done) | (simp; omega)) _ _) | (with_reducible refine GB.alloc ?_ _) | (with_reducible refine GB.drew ?_) | (with_reducible refine GB.upR ?_ _) | (with_reducible refine GB.up ?_ _))) n i))
            refine wpAnyH_take (i := 1) (v := ?_) (opAt rfl) (by kernel_rfl) (by kernel_rfl) (by kernel_rfl) (fun _ _ _ h => h) (Or.inl ⟨by rfl, ?_⟩) (by assumption) ?_
            rotate_left
            · (intro w hSw; (try dsimp only at hSw); go_simp) <;> with_reducible rfl
            try simp only [Act.put, List.setIfInBounds_toArray, List.set_cons_zero, List.set_cons_succ]
            refine wpAnyH_take (i := 2) (v := ?_) (opAt rfl) (by kernel_rfl) (by kernel_rfl) (by kernel_rfl) (fun _ _ _ h => h) (Or.inl ⟨by rfl, ?_⟩) (by assumption) ?_
            rotate_left
            · (intro w hSw; (try dsimp only at hSw); go_simp) <;> with_reducible rfl
            try simp only [Act.put, List.setIfInBounds_toArray, List.set_cons_zero, List.set_cons_succ]
            refine wpAnyH_take (i := 3) (v := ?_) (opAt rfl) (by kernel_rfl) (by kernel_rfl) (by kernel_rfl) (fun _ _ _ h => h) (Or.inl ⟨by rfl, ?_⟩) (by assumption) ?_
            rotate_left
            · (intro w hSw; (try dsimp only at hSw); go_simp) <;> with_reducible rfl
            try simp only [Act.put, List.setIfInBounds_toArray, List.set_cons_zero, List.set_cons_succ]
            refine wpAnyH_ready (rs := [0, 4]) (by kernel_rfl) (by simp) ?_
            refine AllReadyH.cons (opAt rfl) (fun K hK => ?_) ?_
            · go_simp
              refine hK.out _ _ ?_ (fun hHeld1 => ?_)
              · (try dsimp only)
                (first | (refine S_of_gbX (rb := rb) (G := G) ?_; (repeat (first | (with_reducible exact grownBy_refl _ _) | (with_reducible refine GB.setNew ?_ (by first | exact LeS.le | exact LeS.add _ | (simp; done) | (simp; omega)) _ _) | (with_reducible refine GB.alloc ?_ _) | (with_reducible refine GB.drew ?_) | (with_reducible refine GB.upR ?_ _) | (with_reducible refine GB.up ?_ _))); done) | (intro n i hnl hnr hng; simp only [cell_setX]; exact S_of_gbX (rb := rb) (G := G) (by repeat (first | (with_reducible exact grownBy_refl _ _) | (with_reducible refine GB.setNew ?_ (by first | exact LeS.le | exact LeS.add _ | (simp; done) | (simp; omega)) _ _) | (with_reducible refine GB.alloc ?_ _) | (with_reducible refine GB.drew ?_) | (with_reducible refine GB.upR ?_ _) | (with_reducible refine GB.up ?_ _))) n i))
              clear hK K hHeld
              have hHeld := hHeld1; clear hHeld1
              try simp only [Act.put, List.setIfInBounds_toArray, List.set_cons_zero, List.set_cons_succ]
              refine wpAnyH_ready (rs := [4]) (by kernel_rfl) (by simp) ?_
              refine AllReadyH.cons (opAt rfl) (fun K hK => ?_) ?_
              · go_simp
                (go_at_call 53; refine (actions_any w0 _ rb _ 0 (HR6.out.up (by repeat (first | (with_reducible exact Ext.refl _) | (with_reducible refine Ext.up ?_ _) | (with_reducible refine Ext.alloc ?_ _) | (with_reducible refine Ext.drew ?_) | (with_reducible refine Ext.setRow ?_ (by first | exact LeS.le | exact LeS.add _ | (simp; done) | (simp; omega)) _) | (with_reducible refine Ext.setCell ?_ (by first | exact LeS.le | exact LeS.add _ | (simp; done) | (simp; omega)) _)))) (by omega) (by omega) (by omega)).mono ?_; rintro e w' ⟨vl, l, rfl, hl11, _, _, ⟨z7, rfl⟩, hr7, ho7⟩; obtain ⟨pl, cl, hvl, _, _⟩ := (ho7.sl Actn.enc_length).openc; subst hvl; have HR7 := Lib.hid hr7; have HL7 := Lib.hid (ho7.sl Actn.enc_length); have HT7 := Lib.hid ((HT6.out.up (by repeat (first | (with_reducible exact Ext.refl _) | (with_reducible refine Ext.up ?_ _) | (with_reducible refine Ext.alloc ?_ _) | (with_reducible refine Ext.drew ?_) | (with_reducible refine Ext.setRow ?_ (by first | exact LeS.le | exact LeS.add _ | (simp; done) | (simp; omega)) _) | (with_reducible refine Ext.setCell ?_ (by first | exact LeS.le | exact LeS.add _ | (simp; done) | (simp; omega)) _)))).upR hlt hG z7); clear hr7 ho7)
                try go_wp2_with fail
                refine hK.out _ _ ?_ (fun hHeld1 => ?_)
                · (try dsimp only)
                  (first | (refine S_of_gbX (rb := rb) (G := G) ?_; (repeat (first | (with_reducible exact grownBy_refl _ _) | (with_reducible refine GB.setNew ?_ (by first | exact LeS.le | exact LeS.add _ | (simp; done) | (simp; omega)) _ _) | (with_reducible refine GB.alloc ?_ _) | (with_reducible refine GB.drew ?_) | (with_reducible refine GB.upR ?_ _) | (with_reducible refine GB.up ?_ _))); done) | (intro n i hnl hnr hng; simp only [cell_setX]; exact S_of_gbX (rb := rb) (G := G) (by repeat (first | (with_reducible exact grownBy_refl _ _) | (with_reducible refine GB.setNew ?_ (by first | exact LeS.le | exact LeS.add _ | (simp; done) | (simp; omega)) _ _) | (with_reducible refine GB.alloc ?_ _) | (with_reducible refine GB.drew ?_) | (with_reducible refine GB.upR ?_ _) | (with_reducible refine GB.up ?_ _))) n i))
                clear hK K hHeld
                have hHeld := hHeld1; clear hHeld1
                try simp only [Act.put, List.setIfInBounds_toArray, List.set_cons_zero, List.set_cons_succ]
                refine wpAnyH_ready (rs := [5]) (by kernel_rfl) (by simp) ?_
                refine AllReadyH.cons (opAt rfl) (fun K hK => ?_) ?_
                · go_simp
                  (go_at_call 78; refine (sGrowTree_weak t _ _ _ m vw _ l _ (HT7.out.st.up (by repeat (first | (with_reducible exact Ext.refl _) | (with_reducible refine Ext.up ?_ _) | (with_reducible refine Ext.alloc ?_ _) | (with_reducible refine Ext.drew ?_) | (with_reducible refine Ext.setRow ?_ (by first | exact LeS.le | exact LeS.add _ | (simp; done) | (simp; omega)) _) | (with_reducible refine Ext.setCell ?_ (by first | exact LeS.le | exact LeS.add _ | (simp; done) | (simp; omega)) _)))) HT7.out.ok hm (HL7.out.up (by repeat (first | (with_reducible exact Ext.refl _) | (with_reducible refine Ext.up ?_ _) | (with_reducible refine Ext.alloc ?_ _) | (with_reducible refine Ext.drew ?_) | (with_reducible refine Ext.setRow ?_ (by first | exact LeS.le | exact LeS.add _ | (simp; done) | (simp; omega)) _) | (with_reducible refine Ext.setCell ?_ (by first | exact LeS.le | exact LeS.add _ | (simp; done) | (simp; omega)) _)))) (by omega)).mono ?_; rintro e w' ⟨y0, y1, y2, t', bs', ok', rfl, ⟨z8, rfl⟩, htk, hlen, hmm, ot'⟩; obtain ⟨r0, f0, hv0, _, _⟩ := (ot'.obase.sl Ent.enc_length).openc; obtain ⟨r1, f1, hv1, _, _⟩ := (ot'.obs.1.sl TB.enc_length).openc; obtain ⟨r2, f2, hv2, _, _⟩ := (ot'.opr.sl encI_length).openc; subst hv0; subst hv1; subst hv2; have OT8 := Lib.hid ot'; have HM8 := Lib.hid hmm; have HK8 := Lib.hid htk; clear ot' hmm htk)
                  try go_wp2_with fail
                  refine hK.out _ _ ?_ (fun hHeld1 => ?_)
                  · (try dsimp only)
                    (first | (refine S_of_gbX (rb := rb) (G := G) ?_; (repeat (first | (with_reducible exact grownBy_refl _ _) | (with_reducible refine GB.setNew ?_ (by first | exact LeS.le | exact LeS.add _ | (simp; done) | (simp; omega)) _ _) | (with_reducible refine GB.alloc ?_ _) | (with_reducible refine GB.drew ?_) | (with_reducible refine GB.upR ?_ _) | (with_reducible refine GB.up ?_ _))); done) | (intro n i hnl hnr hng; simp only [cell_setX]; exact S_of_gbX (rb := rb) (G := G) (by repeat (first | (with_reducible exact grownBy_refl _ _) | (with_reducible refine GB.setNew ?_ (by first | exact LeS.le | exact LeS.add _ | (simp; done) | (simp; omega)) _ _) | (with_reducible refine GB.alloc ?_ _) | (with_reducible refine GB.drew ?_) | (with_reducible refine GB.upR ?_ _) | (with_reducible refine GB.up ?_ _))) n i))
                  clear hK K hHeld
                  have hHeld := hHeld1; clear hHeld1
                  try simp only [Act.put, List.setIfInBounds_toArray, List.set_cons_zero, List.set_cons_succ]
                  refine wpAnyH_take (i := 6) (v := ?_) (opAt rfl) (by kernel_rfl) (by kernel_rfl) (by kernel_rfl) (fun _ _ _ h => h) (Or.inl ⟨by rfl, ?_⟩) (by assumption) ?_
                  rotate_left
                  · (intro w hSw; (try dsimp only at hSw); go_simp) <;> with_reducible rfl
                  try simp only [Act.put, List.setIfInBounds_toArray, List.set_cons_zero, List.set_cons_succ]
                  refine wpAnyH_take (i := 7) (v := ?_) (opAt rfl) (by kernel_rfl) (by kernel_rfl) (by kernel_rfl) (fun _ _ _ h => h) (Or.inl ⟨by rfl, ?_⟩) (by assumption) ?_
                  rotate_left
                  · (intro w hSw; (try dsimp only at hSw); go_simp) <;> with_reducible rfl
                  try simp only [Act.put, List.setIfInBounds_toArray, List.set_cons_zero, List.set_cons_succ]
                  refine wpAnyH_take (i := 8) (v := ?_) (opAt rfl) (by kernel_rfl) (by kernel_rfl) (by kernel_rfl) (fun _ _ _ h => h) (Or.inl ⟨by rfl, ?_⟩) (by assumption) ?_
                  rotate_left
                  · (intro w hSw; (try dsimp only at hSw); go_simp) <;> with_reducible rfl
                  try simp only [Act.put, List.setIfInBounds_toArray, List.set_cons_zero, List.set_cons_succ]
                  refine wpAnyH_ready (rs := [9]) (by kernel_rfl) (by simp) ?_
                  refine AllReadyH.cons (opAt rfl) (fun K hK => ?_) ?_
                  · go_simp
                    refine hK.out _ _ ?_ (fun hHeld1 => ?_)
                    · (try dsimp only)
                      (first | (refine S_of_gbX (rb := rb) (G := G) ?_; (repeat (first | (with_reducible exact grownBy_refl _ _) | (with_reducible refine GB.setNew ?_ (by first | exact LeS.le | exact LeS.add _ | (simp; done) | (simp; omega)) _ _) | (with_reducible refine GB.alloc ?_ _) | (with_reducible refine GB.drew ?_) | (with_reducible refine GB.upR ?_ _) | (with_reducible refine GB.up ?_ _))); done) | (intro n i hnl hnr hng; simp only [cell_setX]; exact S_of_gbX (rb := rb) (G := G) (by repeat (first | (with_reducible exact grownBy_refl _ _) | (with_reducible refine GB.setNew ?_ (by first | exact LeS.le | exact LeS.add _ | (simp; done) | (simp; omega)) _ _) | (with_reducible refine GB.alloc ?_ _) | (with_reducible refine GB.drew ?_) | (with_reducible refine GB.upR ?_ _) | (with_reducible refine GB.up ?_ _))) n i))
                    clear hK K hHeld
                    have hHeld := hHeld1; clear hHeld1
                    try simp only [Act.put, List.setIfInBounds_toArray, List.set_cons_zero, List.set_cons_succ]
                    refine wpAnyH_done (by kernel_rfl) ?_ _
                    go_wp2_with fail
                    go_meet
                    exact ⟨_, _, _, t', bs', hlen, (HT7.out.up (by repeat (first | (with_reducible exact Ext.refl _) | (with_reducible refine Ext.up ?_ _) | (with_reducible refine Ext.alloc ?_ _) | (with_reducible refine Ext.drew ?_) | (with_reducible refine Ext.setRow ?_ (by first | exact LeS.le | exact LeS.add _ | (simp; done) | (simp; omega)) _) | (with_reducible refine Ext.setCell ?_ (by first | exact LeS.le | exact LeS.add _ | (simp; done) | (simp; omega)) _)))).put hG OT8.out (by have := HT7.out.ltG; simp <;> omega) HM8.out HK8.out, ((HR7.out.up (by repeat (first | (with_reducible exact Ext.refl _) | (with_reducible refine Ext.up ?_ _) | (with_reducible refine Ext.alloc ?_ _) | (with_reducible refine Ext.drew ?_) | (with_reducible refine Ext.setRow ?_ (by first | exact LeS.le | exact LeS.add _ | (simp; done) | (simp; omega)) _) | (with_reducible refine Ext.setCell ?_ (by first | exact LeS.le | exact LeS.add _ | (simp; done) | (simp; omega)) _)))).put _ _ _ (by omega) (by omega)).mono (by omega)⟩
                  exact AllReadyH.nil
                exact AllReadyH.nil
              exact AllReadyH.nil
            refine AllReadyH.cons (opAt rfl) (fun K hK => ?_) ?_
            · go_simp
              (go_at_call 53; refine (actions_any w0 _ rb _ 0 (HR6.out.up (by repeat (first | (with_reducible exact Ext.refl _) | (with_reducible refine Ext.up ?_ _) | (with_reducible refine Ext.alloc ?_ _) | (with_reducible refine Ext.drew ?_) | (with_reducible refine Ext.setRow ?_ (by first | exact LeS.le | exact LeS.add _ | (simp; done) | (simp; omega)) _) | (with_reducible refine Ext.setCell ?_ (by first | exact LeS.le | exact LeS.add _ | (simp; done) | (simp; omega)) _)))) (by omega) (by omega) (by omega)).mono ?_; rintro e w' ⟨vl, l, rfl, hl11, _, _, ⟨z7, rfl⟩, hr7, ho7⟩; obtain ⟨pl, cl, hvl, _, _⟩ := (ho7.sl Actn.enc_length).openc; subst hvl; have HR7 := Lib.hid hr7; have HL7 := Lib.hid (ho7.sl Actn.enc_length); have HT7 := Lib.hid ((HT6.out.up (by repeat (first | (with_reducible exact Ext.refl _) | (with_reducible refine Ext.up ?_ _) | (with_reducible refine Ext.alloc ?_ _) | (with_reducible refine Ext.drew ?_) | (with_reducible refine Ext.setRow ?_ (by first | exact LeS.le | exact LeS.add _ | (simp; done) | (simp; omega)) _) | (with_reducible refine Ext.setCell ?_ (by first | exact LeS.le | exact LeS.add _ | (simp; done) | (simp; omega)) _)))).upR hlt hG z7); clear hr7 ho7)
              try go_wp2_with fail
              refine hK.out _ _ ?_ (fun hHeld1 => ?_)
              · (try dsimp only)
                (first | (refine S_of_gbX (rb := rb) (G := G) ?_; (repeat (first | (with_reducible exact grownBy_refl _ _) | (with_reducible refine GB.setNew ?_ (by first | exact LeS.le | exact LeS.add _ | (simp; done) | (simp; omega)) _ _) | (with_reducible refine GB.alloc ?_ _) | (with_reducible refine GB.drew ?_) | (with_reducible refine GB.upR ?_ _) | (with_reducible refine GB.up ?_ _))); done) | (intro n i hnl hnr hng; simp only [cell_setX]; exact S_of_gbX (rb := rb) (G := G) (by repeat (first | (with_reducible exact grownBy_refl _ _) | (with_reducible refine GB.setNew ?_ (by first | exact LeS.le | exact LeS.add _ | (simp; done) | (simp; omega)) _ _) | (with_reducible refine GB.alloc ?_ _) | (with_reducible refine GB.drew ?_) | (with_reducible refine GB.upR ?_ _) | (with_reducible refine GB.up ?_ _))) n i))
              clear hK K hHeld
              have hHeld := hHeld1; clear hHeld1
              try simp only [Act.put, List.setIfInBounds_toArray, List.set_cons_zero, List.set_cons_succ]
              refine wpAnyH_ready (rs := [0]) (by kernel_rfl) (by simp) ?_
              refine AllReadyH.cons (opAt rfl) (fun K hK => ?_) ?_
              · go_simp
                refine hK.out _ _ ?_ (fun hHeld1 => ?_)
                · (try dsimp only)
                  (first | (refine S_of_gbX (rb := rb) (G := G) ?_; (repeat (first | (with_reducible exact grownBy_refl _ _) | (with_reducible refine GB.setNew ?_ (by first | exact LeS.le | exact LeS.add _ | (simp; done) | (simp; omega)) _ _) | (with_reducible refine GB.alloc ?_ _) | (with_reducible refine GB.drew ?_) | (with_reducible refine GB.upR ?_ _) | (with_reducible refine GB.up ?_ _))); done) | (intro n i hnl hnr hng; simp only [cell_setX]; exact S_of_gbX (rb := rb) (G := G) (by repeat (first | (with_reducible exact grownBy_refl _ _) | (with_reducible refine GB.setNew ?_ (by first | exact LeS.le | exact LeS.add _ | (simp; done) | (simp; omega)) _ _) | (with_reducible refine GB.alloc ?_ _) | (with_reducible refine GB.drew ?_) | (with_reducible refine GB.upR ?_ _) | (with_reducible refine GB.up ?_ _))) n i))
                clear hK K hHeld
                have hHeld := hHeld1; clear hHeld1
                try simp only [Act.put, List.setIfInBounds_toArray, List.set_cons_zero, List.set_cons_succ]
                refine wpAnyH_ready (rs := [5]) (by kernel_rfl) (by simp) ?_
                refine AllReadyH.cons (opAt rfl) (fun K hK => ?_) ?_
                · go_simp
                  (go_at_call 78; refine (sGrowTree_weak t _ _ _ m vw _ l _ (HT7.out.st.up (by repeat (first | (with_reducible exact Ext.refl _) | (with_reducible refine Ext.up ?_ _) | (with_reducible refine Ext.alloc ?_ _) | (with_reducible refine Ext.drew ?_) | (with_reducible refine Ext.setRow ?_ (by first | exact LeS.le | exact LeS.add _ | (simp; done) | (simp; omega)) _) | (with_reducible refine Ext.setCell ?_ (by first | exact LeS.le | exact LeS.add _ | (simp; done) | (simp; omega)) _)))) HT7.out.ok hm (HL7.out.up (by repeat (first | (with_reducible exact Ext.refl _) | (with_reducible refine Ext.up ?_ _) | (with_reducible refine Ext.alloc ?_ _) | (with_reducible refine Ext.drew ?_) | (with_reducible refine Ext.setRow ?_ (by first | exact LeS.le | exact LeS.add _ | (simp; done) | (simp; omega)) _) | (with_reducible refine Ext.setCell ?_ (by first | exact LeS.le | exact LeS.add _ | (simp; done) | (simp; omega)) _)))) (by omega)).mono ?_; rintro e w' ⟨y0, y1, y2, t', bs', ok', rfl, ⟨z8, rfl⟩, htk, hlen, hmm, ot'⟩; obtain ⟨r0, f0, hv0, _, _⟩ := (ot'.obase.sl Ent.enc_length).openc; obtain ⟨r1, f1, hv1, _, _⟩ := (ot'.obs.1.sl TB.enc_length).openc; obtain ⟨r2, f2, hv2, _, _⟩ := (ot'.opr.sl encI_length).openc; subst hv0; subst hv1; subst hv2; have OT8 := Lib.hid ot'; have HM8 := Lib.hid hmm; have HK8 := Lib.hid htk; clear ot' hmm htk)
                  try go_wp2_with fail
                  refine hK.out _ _ ?_ (fun hHeld1 => ?_)
                  · (try dsimp only)
                    (first | (refine S_of_gbX (rb := rb) (G := G) ?_; (repeat (first | (with_reducible exact grownBy_refl _ _) | (with_reducible refine GB.setNew ?_ (by first | exact LeS.le | exact LeS.add _ | (simp; done) | (simp; omega)) _ _) | (with_reducible refine GB.alloc ?_ _) | (with_reducible refine GB.drew ?_) | (with_reducible refine GB.upR ?_ _) | (with_reducible refine GB.up ?_ _))); done) | (intro n i hnl hnr hng; simp only [cell_setX]; exact S_of_gbX (rb := rb) (G := G) (by repeat (first | (with_reducible exact grownBy_refl _ _) | (with_reducible refine GB.setNew ?_ (by first | exact LeS.le | exact LeS.add _ | (simp; done) | (simp; omega)) _ _) | (with_reducible refine GB.alloc ?_ _) | (with_reducible refine GB.drew ?_) | (with_reducible refine GB.upR ?_ _) | (with_reducible refine GB.up ?_ _))) n i))
                  clear hK K hHeld
                  have hHeld := hHeld1; clear hHeld1
                  try simp only [Act.put, List.setIfInBounds_toArray, List.set_cons_zero, List.set_cons_succ]
                  refine wpAnyH_take (i := 6) (v := ?_) (opAt rfl) (by kernel_rfl) (by kernel_rfl) (by kernel_rfl) (fun _ _ _ h => h) (Or.inl ⟨by rfl, ?_⟩) (by assumption) ?_
                  rotate_left
                  · (intro w hSw; (try dsimp only at hSw); go_simp) <;> with_reducible rfl
                  try simp only [Act.put, List.setIfInBounds_toArray, List.set_cons_zero, List.set_cons_succ]
                  refine wpAnyH_take (i := 7) (v := ?_) (opAt rfl) (by kernel_rfl) (by kernel_rfl) (by kernel_rfl) (fun _ _ _ h => h) (Or.inl ⟨by rfl, ?_⟩) (by assumption) ?_
                  rotate_left
                  · (intro w hSw; (try dsimp only at hSw); go_simp) <;> with_reducible rfl
                  try simp only [Act.put, List.setIfInBounds_toArray, List.set_cons_zero, List.set_cons_succ]
                  refine wpAnyH_take (i := 8) (v := ?_) (opAt rfl) (by kernel_rfl) (by kernel_rfl) (by kernel_rfl) (fun _ _ _ h => h) (Or.inl ⟨by rfl, ?_⟩) (by assumption) ?_
                  rotate_left
                  · (intro w hSw; (try dsimp only at hSw); go_simp) <;> with_reducible rfl
                  try simp only [Act.put, List.setIfInBounds_toArray, List.set_cons_zero, List.set_cons_succ]
                  refine wpAnyH_ready (rs := [9]) (by kernel_rfl) (by simp) ?_
                  refine AllReadyH.cons (opAt rfl) (fun K hK => ?_) ?_
                  · go_simp
                    refine hK.out _ _ ?_ (fun hHeld1 => ?_)
                    · (try dsimp only)
                      (first | (refine S_of_gbX (rb := rb) (G := G) ?_; (repeat (first | (with_reducible exact grownBy_refl _ _) | (with_reducible refine GB.setNew ?_ (by first | exact LeS.le | exact LeS.add _ | (simp; done) | (simp; omega)) _ _) | (with_reducible refine GB.alloc ?_ _) | (with_reducible refine GB.drew ?_) | (with_reducible refine GB.upR ?_ _) | (with_reducible refine GB.up ?_ _))); done) | (intro n i hnl hnr hng; simp only [cell_setX]; exact S_of_gbX (rb := rb) (G := G) (by repeat (first | (with_reducible exact grownBy_refl _ _) | (with_reducible refine GB.setNew ?_ (by first | exact LeS.le | exact LeS.add _ | (simp; done) | (simp; omega)) _ _) | (with_reducible refine GB.alloc ?_ _) | (with_reducible refine GB.drew ?_) | (with_reducible refine GB.upR ?_ _) | (with_reducible refine GB.up ?_ _))) n i))
                    clear hK K hHeld
                    have hHeld := hHeld1; clear hHeld1
                    try simp only [Act.put, List.setIfInBounds_toArray, List.set_cons_zero, List.set_cons_succ]
                    refine wpAnyH_done (by kernel_rfl) ?_ _
                    go_wp2_with fail
                    go_meet
                    exact ⟨_, _, _, t', bs', hlen, (HT7.out.up (by repeat (first | (with_reducible exact Ext.refl _) | (with_reducible refine Ext.up ?_ _) | (with_reducible refine Ext.alloc ?_ _) | (with_reducible refine Ext.drew ?_) | (with_reducible refine Ext.setRow ?_ (by first | exact LeS.le | exact LeS.add _ | (simp; done) | (simp; omega)) _) | (with_reducible refine Ext.setCell ?_ (by first | exact LeS.le | exact LeS.add _ | (simp; done) | (simp; omega)) _)))).put hG OT8.out (by have := HT7.out.ltG; simp <;> omega) HM8.out HK8.out, ((HR7.out.up (by repeat (first | (with_reducible exact Ext.refl _) | (with_reducible refine Ext.up ?_ _) | (with_reducible refine Ext.alloc ?_ _) | (with_reducible refine Ext.drew ?_) | (with_reducible refine Ext.setRow ?_ (by first | exact LeS.le | exact LeS.add _ | (simp; done) | (simp; omega)) _) | (with_reducible refine Ext.setCell ?_ (by first | exact LeS.le | exact LeS.add _ | (simp; done) | (simp; omega)) _)))).put _ _ _ (by omega) (by omega)).mono (by omega)⟩
                  exact AllReadyH.nil
                exact AllReadyH.nil
              exact AllReadyH.nil
            exact AllReadyH.nil
          case rest =>
            obtain ⟨y0, y1, y2, t', bs', hlen, hT7, hr7⟩ := hcut
            obtain ⟨z7, rfl⟩ := ExtR.of hT7.gb
            have HT7 := Lib.hid hT7; have HR7 := Lib.hid hr7
            have hLG7 : LtS G z7.val := ⟨hT7.ltG⟩
            have hLb7 : LtS rb z7.val := ⟨hr7.lt⟩
            obtain ⟨p0', c0', rfl, _, _⟩ := (hT7.ot.obase.sl Ent.enc_length).openc
            obtain ⟨p2', c2', rfl, _, _⟩ := (hT7.ot.opr.sl encI_length).openc
            clear e0 e1 e2 e3 e4 e5 hNb hb'
            obtain ⟨xb, xl, pv, cv, b, off, c1', rfl, hb', hNb, hNbG, e0, e1, e2, e3, e4, e5, hxo, _⟩ := hT7.blk hlt (m := m) (by omega)
            have HX7 := Lib.hid hxo
            have G0 : z7.val.cell? ⟨G, 0, none⟩ = some (.slice p0' t'.base.length c0') := cell_of_row _ _ 0 _ _ _ hT7.box
            have G1 : z7.val.cell? ⟨G, 1, none⟩ = some (.slice (some ⟨b, off, none⟩) t'.bs.length c1') := cell_of_row _ _ 1 _ _ _ hT7.box
            have G2 : z7.val.cell? ⟨G, 2, none⟩ = some (.slice p2' t'.pr.length c2') := cell_of_row _ _ 2 _ _ _ hT7.box
            have F0 : z7.val.frozen? ⟨G, 0, none⟩ = false := frozen_of_row _ _ 0 _ _ hT7.box
            have F1 : z7.val.frozen? ⟨G, 1, none⟩ = false := frozen_of_row _ _ 1 _ _ hT7.box
            have F2 : z7.val.frozen? ⟨G, 2, none⟩ = false := frozen_of_row _ _ 2 _ _ hT7.box
            have hm' : m < t'.bs.length := by omega
            have m1' : (m : Int) < t'.bs.length := by omega
            clear hT7 hr7 hxo HT HT5 HT6 HR5 HR6 HR g0 g1 g2 gf0 gf1 gf2
            go_wp2_with fail
            refine (odd_any w0 _ rb _ 9 (HR7.out.up (by repeat (first | (with_reducible exact Ext.refl _) | (with_reducible refine Ext.up ?_ _) | (with_reducible refine Ext.alloc ?_ _) | (with_reducible refine Ext.drew ?_) | (with_reducible refine Ext.setRow ?_ (by first | exact LeS.le | exact LeS.add _ | (simp; done) | (simp; omega)) _) | (with_reducible refine Ext.setCell ?_ (by first | exact LeS.le | exact LeS.add _ | (simp; done) | (simp; omega)) _)))) (by omega) (by omega) (by omega)).mono ?_; rintro e w' ⟨bo, rfl, _, ⟨z8, rfl⟩, hr8⟩
            have HR8 := Lib.hid hr8; have HT8 := Lib.hid (HT7.out.upR hlt hG z8)
            have HX8 := Lib.hid (HX7.out.upR (by omega) z8)
            have hLb8 : LtS rb z8.val := ⟨hr8.lt⟩
            have hLG8 : LtS G z8.val := ⟨HT8.out.ltG⟩
            clear hr8 HT7 HR7 HX7
            rcases bo with _ | _
            · go_wp2_with fail
              go_roundw
              case rel => exact ⟨k - 1, _, _, _, t', bs', by go_num, by omega, by omega, HT8.out, HR8.out.mono (by omega)⟩
              case measure => simp [intOf]; omega

            by_cases hl2 : 1 < t'.bs.length
            rotate_left
            · go_wp2_with fail
              go_roundw
              case rel => exact ⟨k - 1, _, _, _, t', bs', by go_num, by omega, by omega, HT8.out, HR8.out.mono (by omega)⟩
              case measure => simp [intOf]; omega

            have kp := fun b' bl vb w h hb hbl => sPutBlock_weak t' (.slice p0' t'.base.length c0') (.slice (some ⟨b, off, none⟩) t'.bs.length c1') (.slice p2' t'.pr.length c2') b' bl vb w h HT8.out.ok hb hbl
            have ks := fun w h => sStoreOf_weak t' (.slice p0' t'.base.length c0') (.slice (some ⟨b, off, none⟩) t'.bs.length c1') (.slice p2' t'.pr.length c2') m w h HT8.out.ok (inR_iff.2 (by omega))
            go_upto_region 9 with fail
            go_cut [9, 10] (fun s9 s10 wr' => ∃ (Bx : Nat) (b' : Blk) (p4 : Option Addr) (c4 : Nat) (l' : List Actn) (ok : Bool), s9 = .pointer (some ⟨Bx, 0, none⟩) ∧ s10 = .bool ok ∧ l'.length ≤ 11 ∧ LtS Bx wr' ∧ (Bx ≠ G ∧ w.heap.size < Bx) ∧ ((Value.slice p0' t'.base.length c0').ownBlock ≠ some Bx ∧ (Value.slice (some ⟨b, off, none⟩) t'.bs.length c1').ownBlock ≠ some Bx ∧ (Value.slice p2' t'.pr.length c2').ownBlock ≠ some Bx ∧ ∀ x ∈ bs', x.v.ownBlock ≠ some Bx) ∧ LT 27 61 39 85 3 rb G w wr' (.slice p0' t'.base.length c0') (.slice (some ⟨b, off, none⟩) t'.bs.length c1') (.slice p2' t'.pr.length c2') t' bs' ∧ Rd w0 wr' rb (lim + 5000 - 600 * k + 404) ∧ Own Actn.enc 85 4 (w.heap.size + 1) wr' (.slice p4 l'.length c4) l' ∧ (Value.slice p4 l'.length c4).ownBlock ≠ some Bx ∧ wr'.frozen? ⟨Bx, 4, none⟩ = false ∧ wr'.cell? ⟨Bx, 0, none⟩ = some (.int .i64 b'.bf) ∧ wr'.cell? ⟨Bx, 1, none⟩ = some (.int .i64 b'.ht) ∧ wr'.cell? ⟨Bx, 2, none⟩ = some (.int .i64 b'.vw) ∧ wr'.cell? ⟨Bx, 3, none⟩ = some (.slice p4 l'.length c4) ∧ wr'.cell? ⟨Bx, 4, none⟩ = some (.int .i64 b'.rt) ∧ wr'.cell? ⟨Bx, 5, none⟩ = some (.int .i64 b'.ef))
            case first =>
              (go_region_held3 (fun w' => (∀ n i, ∀ [LtS n z8.val] [NeS n rb], w'.cell? ⟨n, i, none⟩ = World.cell? z8.val ⟨n, i, none⟩) ∧ World.grownBy z8.val w' (some rb)) ((refine S_of_gb ?_; (repeat (first | (with_reducible exact grownBy_refl _ _) | (with_reducible refine GB.setNew ?_ (by first | exact LeS.le | exact LeS.add _ | (simp; done) | (simp; omega)) _ _) | (with_reducible refine GB.alloc ?_ _) | (with_reducible refine GB.drew ?_) | (with_reducible refine GB.upR ?_ _) | (with_reducible refine GB.up ?_ _))); done)) (first | ((go_at_call 10; refine (ks _ (HT8.out.st.up (by repeat (first | (with_reducible exact Ext.refl _) | (with_reducible refine Ext.up ?_ _) | (with_reducible refine Ext.alloc ?_ _) | (with_reducible refine Ext.drew ?_) | (with_reducible refine Ext.setRow ?_ (by first | exact LeS.le | exact LeS.add _ | (simp; done) | (simp; omega)) _) | (with_reducible refine Ext.setCell ?_ (by first | exact LeS.le | exact LeS.add _ | (simp; done) | (simp; omega)) _))))).mono ?_; rintro e w' ⟨v3, s3, rfl, ⟨z9, rfl⟩, _, o3⟩); obtain ⟨p3, c3, hv3, _, _⟩ := (o3.sl Ent.enc_length).openc; subst hv3; have S3 := Lib.hid (o3.lo (lo' := w.heap.size + 1) (by have := HT8.out.ltR; simp <;> omega)); have HR9 := Lib.hid (HR8.out.up (w' := z9.val) (by repeat (first | (with_reducible exact Ext.refl _) | (with_reducible refine Ext.up ?_ _) | (with_reducible refine Ext.alloc ?_ _) | (with_reducible refine Ext.drew ?_) | (with_reducible refine Ext.setRow ?_ (by first | exact LeS.le | exact LeS.add _ | (simp; done) | (simp; omega)) _) | (with_reducible refine Ext.setCell ?_ (by first | exact LeS.le | exact LeS.add _ | (simp; done) | (simp; omega)) _)))); have HT9 := Lib.hid (HT8.out.up (w' := z9.val) (by repeat (first | (with_reducible exact Ext.refl _) | (with_reducible refine Ext.up ?_ _) | (with_reducible refine Ext.alloc ?_ _) | (with_reducible refine Ext.drew ?_) | (with_reducible refine Ext.setRow ?_ (by first | exact LeS.le | exact LeS.add _ | (simp; done) | (simp; omega)) _) | (with_reducible refine Ext.setCell ?_ (by first | exact LeS.le | exact LeS.add _ | (simp; done) | (simp; omega)) _)))); have HX9 := Lib.hid (HX8.out.up (w' := z9.val) (by repeat (first | (with_reducible exact Ext.refl _) | (with_reducible refine Ext.up ?_ _) | (with_reducible refine Ext.alloc ?_ _) | (with_reducible refine Ext.drew ?_) | (with_reducible refine Ext.setRow ?_ (by first | exact LeS.le | exact LeS.add _ | (simp; done) | (simp; omega)) _) | (with_reducible refine Ext.setCell ?_ (by first | exact LeS.le | exact LeS.add _ | (simp; done) | (simp; omega)) _)))); clear o3) | (go_at_call 53; refine (actions_any w0 _ rb _ 0 (HR9.out.up (by repeat (first | (with_reducible exact Ext.refl _) | (with_reducible refine Ext.up ?_ _) | (with_reducible refine Ext.alloc ?_ _) | (with_reducible refine Ext.drew ?_) | (with_reducible refine Ext.setRow ?_ (by first | exact LeS.le | exact LeS.add _ | (simp; done) | (simp; omega)) _) | (with_reducible refine Ext.setCell ?_ (by first | exact LeS.le | exact LeS.add _ | (simp; done) | (simp; omega)) _)))) (by omega) (by omega) (by omega)).mono ?_; rintro e w' ⟨vl, l, rfl, hl11, _, _, ⟨z10, rfl⟩, hr10, ho10⟩; obtain ⟨pl, cl, hvl, _, _⟩ := (ho10.sl Actn.enc_length).openc; subst hvl; have HR10 := Lib.hid hr10; have HL10 := Lib.hid (ho10.sl Actn.enc_length); have HT10 := Lib.hid ((HT9.out.up (by repeat (first | (with_reducible exact Ext.refl _) | (with_reducible refine Ext.up ?_ _) | (with_reducible refine Ext.alloc ?_ _) | (with_reducible refine Ext.drew ?_) | (with_reducible refine Ext.setRow ?_ (by first | exact LeS.le | exact LeS.add _ | (simp; done) | (simp; omega)) _) | (with_reducible refine Ext.setCell ?_ (by first | exact LeS.le | exact LeS.add _ | (simp; done) | (simp; omega)) _)))).upR hlt hG z10); have HX10 := Lib.hid ((HX9.out.up (by repeat (first | (with_reducible exact Ext.refl _) | (with_reducible refine Ext.up ?_ _) | (with_reducible refine Ext.alloc ?_ _) | (with_reducible refine Ext.drew ?_) | (with_reducible refine Ext.setRow ?_ (by first | exact LeS.le | exact LeS.add _ | (simp; done) | (simp; omega)) _) | (with_reducible refine Ext.setCell ?_ (by first | exact LeS.le | exact LeS.add _ | (simp; done) | (simp; omega)) _)))).upR (by omega) z10); have S10 := Lib.hid ((S3.out.up (by repeat (first | (with_reducible exact Ext.refl _) | (with_reducible refine Ext.up ?_ _) | (with_reducible refine Ext.alloc ?_ _) | (with_reducible refine Ext.drew ?_) | (with_reducible refine Ext.setRow ?_ (by first | exact LeS.le | exact LeS.add _ | (simp; done) | (simp; omega)) _) | (with_reducible refine Ext.setCell ?_ (by first | exact LeS.le | exact LeS.add _ | (simp; done) | (simp; omega)) _)))).upR (by omega) z10); clear hr10 ho10) | ((go_at_call 52; refine (sNextBlock_any xb xl _ _ _ s3 l vw _ ((HX10.out.sl Actn.enc_length).up (by repeat (first | (with_reducible exact Ext.refl _) | (with_reducible refine Ext.up ?_ _) | (with_reducible refine Ext.alloc ?_ _) | (with_reducible refine Ext.drew ?_) | (with_reducible refine Ext.setRow ?_ (by first | exact LeS.le | exact LeS.add _ | (simp; done) | (simp; omega)) _) | (with_reducible refine Ext.setCell ?_ (by first | exact LeS.le | exact LeS.add _ | (simp; done) | (simp; omega)) _)))) ((S10.out.sl Ent.enc_length).up (by repeat (first | (with_reducible exact Ext.refl _) | (with_reducible refine Ext.up ?_ _) | (with_reducible refine Ext.alloc ?_ _) | (with_reducible refine Ext.drew ?_) | (with_reducible refine Ext.setRow ?_ (by first | exact LeS.le | exact LeS.add _ | (simp; done) | (simp; omega)) _) | (with_reducible refine Ext.setCell ?_ (by first | exact LeS.le | exact LeS.add _ | (simp; done) | (simp; omega)) _)))) (HL10.out.up (by repeat (first | (with_reducible exact Ext.refl _) | (with_reducible refine Ext.up ?_ _) | (with_reducible refine Ext.alloc ?_ _) | (with_reducible refine Ext.drew ?_) | (with_reducible refine Ext.setRow ?_ (by first | exact LeS.le | exact LeS.add _ | (simp; done) | (simp; omega)) _) | (with_reducible refine Ext.setCell ?_ (by first | exact LeS.le | exact LeS.add _ | (simp; done) | (simp; omega)) _))))).mono ?_; rintro e w' ⟨b', v4, l', ok, rfl, ⟨z11, rfl⟩, hll', o4⟩); obtain ⟨p4, c4, hv4, _, _⟩ := (o4.sl Actn.enc_length).openc; subst hv4; have hN4 := Own.ne_out o4; have S4 := Lib.hid (o4.lo (lo' := w.heap.size + 1) (by have := HT10.out.ltR; simp <;> omega)); clear o4) | fail))
              all_goals go_wp2_with fail
              all_goals go_meet
              all_goals
                have hg8 := HT8.out.ltG
                have hOff : ∀ X, z8.val.heap.size ≤ X → _ := fun X h => HT8.out.ot.off (X := X) (.inr h)
                have h9 := z9.ext.size
                have h10 := z10.grown.size
                have h11 := z11.ext.size
                simp at h9 h10 h11
                refine ⟨_, b', p4, c4, l', ok, rfl, rfl, by omega, by infer_instance, ⟨by omega, by omega⟩, hOff _ (by omega), ?_, ?_, ?_, ?_, by go_simp, by go_simp, by go_simp, by go_simp, by go_simp, by go_simp, by go_simp⟩
                · (repeat (with_reducible refine LT.setOff ?_ _ _ (by omega) (by omega) (hOff _ (by omega))))
                  exact HT10.out.up (by repeat (first | (with_reducible exact Ext.refl _) | (with_reducible refine Ext.up ?_ _) | (with_reducible refine Ext.alloc ?_ _) | (with_reducible refine Ext.drew ?_) | (with_reducible refine Ext.setRow ?_ (by first | exact LeS.le | exact LeS.add _ | (simp; done) | (simp; omega)) _) | (with_reducible refine Ext.setCell ?_ (by first | exact LeS.le | exact LeS.add _ | (simp; done) | (simp; omega)) _)))
                · refine Rd.mono (a := lim + 5000 - 600 * k + 203 + 1 + 200) ?_ (by omega)
                  (repeat (with_reducible refine Rd.set ?_ _ _ (by omega) (by omega)))
                  exact HR10.out.up (by repeat (first | (with_reducible exact Ext.refl _) | (with_reducible refine Ext.up ?_ _) | (with_reducible refine Ext.alloc ?_ _) | (with_reducible refine Ext.drew ?_) | (with_reducible refine Ext.setRow ?_ (by first | exact LeS.le | exact LeS.add _ | (simp; done) | (simp; omega)) _) | (with_reducible refine Ext.setCell ?_ (by first | exact LeS.le | exact LeS.add _ | (simp; done) | (simp; omega)) _)))
                · (repeat (with_reducible refine Own.setApart ?_ _ _ (.inr (hN4 _ (.inl (by (try simp) <;> omega))))))
                  first | (with_reducible exact S4.out) | (with_reducible refine Own.alloc ?_; with_reducible exact S4.out)
                · first | exact hN4 _ (.inr (Nat.le_refl _)) | exact hN4 _ (.inl (by (try simp) <;> omega))
            case rest =>
              obtain ⟨Bx, b', p4, c4, l', ok, rfl, rfl, hll, hLB, ⟨hBG, hBw⟩, hoff9, hT9, hr9, ho9, hn9, x4f, x0, x1, x2, x3, x4, x5⟩ := hcut
              obtain ⟨z9, rfl⟩ := ExtR.of hT9.gb
              have HT9 := Lib.hid hT9; have HR9 := Lib.hid hr9; have HO9 := Lib.hid ho9
              have hLG9 : LtS G z9.val := ⟨hT9.ltG⟩
              have hLb9 : LtS rb z9.val := ⟨hr9.lt⟩
              have hNBr : NeS Bx rb := ⟨by omega⟩
              have hNGB : NeS G Bx := ⟨by omega⟩
              have hNBG : NeS Bx G := ⟨by omega⟩
              have K0 : z9.val.cell? ⟨G, 0, none⟩ = some (.slice p0' t'.base.length c0') := cell_of_row _ _ 0 _ _ _ hT9.box
              have K1 : z9.val.cell? ⟨G, 1, none⟩ = some (.slice (some ⟨b, off, none⟩) t'.bs.length c1') := cell_of_row _ _ 1 _ _ _ hT9.box
              have K2 : z9.val.cell? ⟨G, 2, none⟩ = some (.slice p2' t'.pr.length c2') := cell_of_row _ _ 2 _ _ _ hT9.box
              have KF0 : z9.val.frozen? ⟨G, 0, none⟩ = false := frozen_of_row _ _ 0 _ _ hT9.box
              have KF1 : z9.val.frozen? ⟨G, 1, none⟩ = false := frozen_of_row _ _ 1 _ _ hT9.box
              have KF2 : z9.val.frozen? ⟨G, 2, none⟩ = false := frozen_of_row _ _ 2 _ _ hT9.box
              clear hT9 hr9 ho9 HT8 HR8 HX8 G0 G1 G2 F0 F1 F2 e0 e1 e2 e3 e4 e5 ks
              rcases ok with _ | _
              · go_wp2_with fail
                go_roundw
                case rel => exact ⟨k - 1, _, _, _, t', bs', by go_num, by omega, by omega, HT9.out, HR9.out.mono (by omega)⟩
                case measure => simp [intOf]; omega

              go_wp2_with fail
              refine (pick_any w0 _ rb _ 256 (HR9.out.up (by repeat (first | (with_reducible exact Ext.refl _) | (with_reducible refine Ext.up ?_ _) | (with_reducible refine Ext.alloc ?_ _) | (with_reducible refine Ext.drew ?_) | (with_reducible refine Ext.setRow ?_ (by first | exact LeS.le | exact LeS.add _ | (simp; done) | (simp; omega)) _) | (with_reducible refine Ext.setCell ?_ (by first | exact LeS.le | exact LeS.add _ | (simp; done) | (simp; omega)) _)))) (by omega) (by omega) (by omega)).mono ?_; rintro e w' ⟨kk, rfl, _, _, _, ⟨z12, rfl⟩, hr12⟩
              have HR12 := Lib.hid hr12
              have HT12 := Lib.hid ((HT9.out.upR hlt hG z12).setOff 4 (.int .i64 kk) hBG hBw hoff9)
              have HO12 := Lib.hid ((HO9.out.upR (by omega) z12).setApart 4 (.int .i64 kk) (.inr hn9))
              have HS12 := Lib.hid (hr12.set 4 (.int .i64 kk) (show Bx ≠ rb by omega) (by omega))
              clear hr12
              go_wp2_with fail
              refine (kp ⟨b'.bf, b'.ht, b'.vw, kk, b'.ef⟩ l' (.slice p4 l'.length c4) _ (HT12.out.st.up (by repeat (first | (with_reducible exact Ext.refl _) | (with_reducible refine Ext.up ?_ _) | (with_reducible refine Ext.alloc ?_ _) | (with_reducible refine Ext.drew ?_) | (with_reducible refine Ext.setRow ?_ (by first | exact LeS.le | exact LeS.add _ | (simp; done) | (simp; omega)) _) | (with_reducible refine Ext.setCell ?_ (by first | exact LeS.le | exact LeS.add _ | (simp; done) | (simp; omega)) _)))) ((HO12.out.sl Actn.enc_length).up (by repeat (first | (with_reducible exact Ext.refl _) | (with_reducible refine Ext.up ?_ _) | (with_reducible refine Ext.alloc ?_ _) | (with_reducible refine Ext.drew ?_) | (with_reducible refine Ext.setRow ?_ (by first | exact LeS.le | exact LeS.add _ | (simp; done) | (simp; omega)) _) | (with_reducible refine Ext.setCell ?_ (by first | exact LeS.le | exact LeS.add _ | (simp; done) | (simp; omega)) _)))) (by omega)).mono ?_; rintro e w' ⟨y0, y1, y2, t3, bs3, ok', rfl, ⟨z13, rfl⟩, htk, hlen3, hmm, ot'⟩
              obtain ⟨r0, f0, rfl, _, _⟩ := (ot'.obase.sl Ent.enc_length).openc
              obtain ⟨r1, f1, rfl, _, _⟩ := (ot'.obs.1.sl TB.enc_length).openc
              obtain ⟨r2, f2, rfl, _, _⟩ := (ot'.opr.sl encI_length).openc
              have OT13 := Lib.hid ot'; have HM13 := Lib.hid hmm; have HK13 := Lib.hid htk
              have HT13 := Lib.hid ((HT12.out.up z13.ext).put hG OT13.out (by have := HT12.out.ltG; simp [setCell_sz] at this ⊢ <;> omega) HM13.out HK13.out)
              have HR13 := Lib.hid ((HS12.out.up z13.ext).put (G := G) (.slice r0 t3.base.length f0) (.slice r1 bs3.length f1) (.slice r2 t3.pr.length f2) (by omega) (by omega))
              clear ot' hmm htk kp
              go_wp2_with fail
              go_roundw
              case rel => exact ⟨k - 1, _, _, _, t3, bs3, by go_num, by omega, by omega, HT13.out, HR13.out.mono (by omega)⟩
              case measure => simp [intOf]; omega
    · obtain rfl : k = 0 := by omega
      have HPR := Lib.hid (Tree.lens HT.out.ok).1
      have hok := Lib.hid HT.out.ok
      go_wp2_with fail
      refine (odd_any w0 _ rb _ n (HR.out.up (by repeat (first | (with_reducible exact Ext.refl _) | (with_reducible refine Ext.up ?_ _) | (with_reducible refine Ext.alloc ?_ _) | (with_reducible refine Ext.drew ?_) | (with_reducible refine Ext.setRow ?_ (by first | exact LeS.le | exact LeS.add _ | (simp; done) | (simp; omega)) _) | (with_reducible refine Ext.setCell ?_ (by first | exact LeS.le | exact LeS.add _ | (simp; done) | (simp; omega)) _)))) (by omega) (by omega) (by omega)).mono ?_; rintro e w' ⟨bo, rfl, hbo, ⟨z14, rfl⟩, hr14⟩
      have HT14 := Lib.hid (HT.out.upR hlt hG z14); have HR14 := Lib.hid hr14
      have hLR : LtS w.heap.size z14.val := ⟨HT14.out.ltR⟩
      have hLG14 : LtS G z14.val := ⟨HT14.out.ltG⟩
      have hLb14 : LtS rb z14.val := ⟨hr14.lt⟩
      have hNGR : NeS G w.heap.size := ⟨by omega⟩
      have hNRG : NeS w.heap.size G := ⟨by omega⟩
      have hNRr : NeS w.heap.size rb := ⟨by omega⟩
      clear hr14 HT HR
      rcases bo with _ | _
      · have c0r : z14.val.cell? ⟨w.heap.size, 0, none⟩ = some (.slice none 0 0) := cell_of_row _ _ 0 _ _ _ HT14.out.res
        have c1r : z14.val.cell? ⟨w.heap.size, 1, none⟩ = some (.slice none 0 0) := cell_of_row _ _ 1 _ _ _ HT14.out.res
        have c2r : z14.val.cell? ⟨w.heap.size, 2, none⟩ = some (.slice none 0 0) := cell_of_row _ _ 2 _ _ _ HT14.out.res
        have f0r : z14.val.frozen? ⟨w.heap.size, 0, none⟩ = false := frozen_of_row _ _ 0 _ _ HT14.out.res
        have f1r : z14.val.frozen? ⟨w.heap.size, 1, none⟩ = false := frozen_of_row _ _ 1 _ _ HT14.out.res
        have f2r : z14.val.frozen? ⟨w.heap.size, 2, none⟩ = false := frozen_of_row _ _ 2 _ _ HT14.out.res
        go_wp2_with fail
        refine bodyPost_ret (v := .agg #[.slice p0 t.base.length c0, .slice p1 t.bs.length c1, .slice p2 t.pr.length c2]) (by simp [results, Try.results47, go_sem, c0r, c1r, c2r]) rfl ?_
        refine ⟨_, _, _, t, bs, rfl, fun _ => hok.out, ⟨hn1, hn14⟩, HT14.out.core, ExtR.of (GB.setNew (GB.setNew (GB.setNew HT14.out.gb (Nat.le_refl _) _ _) (Nat.le_refl _) _ _) (Nat.le_refl _) _ _), (HR14.out.put (G := w.heap.size) _ _ _ (by omega) (by omega)).mono (by omega), ?_⟩
        exact (((HT14.out.ot.setOld _ _ (by show w.heap.size < _; omega)).setOld _ _ (by show w.heap.size < _; omega)).setOld _ _ (by show w.heap.size < _; omega)).lo (by omega)
      have hn : n ≠ 0 := fun e => by cases hbo e
      clear hbo g0 g1 g2 gf0 gf1 gf2
      have h0 : z14.val.cell? ⟨G, 1, none⟩ = some (.slice p1 t.bs.length c1) := cell_of_row _ _ 1 _ _ _ HT14.out.box
      go_wp2_with fail
      refine (pick_any w0 _ rb _ (t.bs.length : Int) (HR14.out.up (by repeat (first | (with_reducible exact Ext.refl _) | (with_reducible refine Ext.up ?_ _) | (with_reducible refine Ext.alloc ?_ _) | (with_reducible refine Ext.drew ?_) | (with_reducible refine Ext.setRow ?_ (by first | exact LeS.le | exact LeS.add _ | (simp; done) | (simp; omega)) _) | (with_reducible refine Ext.setCell ?_ (by first | exact LeS.le | exact LeS.add _ | (simp; done) | (simp; omega)) _)))) (by omega) (by omega) (by omega)).mono ?_; rintro e w' ⟨q, rfl, q0, q1, _, ⟨z15, rfl⟩, hr15⟩
      have hq := q1 (by omega)
      obtain ⟨m, hm⟩ : ∃ m : Nat, q = (m : Int) := ⟨q.toNat, by omega⟩
      subst hm
      have HR15 := Lib.hid hr15; have HT15 := Lib.hid (HT14.out.upR hlt hG z15)
      have hLb15 : LtS rb z15.val := ⟨hr15.lt⟩
      clear q1 hr15 HT14 HR14 h0
      go_wp2_with fail
      refine (pick_any w0 _ rb _ 4 (HR15.out.up (by repeat (first | (with_reducible exact Ext.refl _) | (with_reducible refine Ext.up ?_ _) | (with_reducible refine Ext.alloc ?_ _) | (with_reducible refine Ext.drew ?_) | (with_reducible refine Ext.setRow ?_ (by first | exact LeS.le | exact LeS.add _ | (simp; done) | (simp; omega)) _) | (with_reducible refine Ext.setCell ?_ (by first | exact LeS.le | exact LeS.add _ | (simp; done) | (simp; omega)) _)))) (by omega) (by omega) (by omega)).mono ?_; rintro e w' ⟨y, rfl, y0, y1, _, ⟨z16, rfl⟩, hr16⟩
      have hy := y1 (by omega)
      have HR16 := Lib.hid hr16; have HT16 := Lib.hid (HT15.out.upR hlt hG z16)
      have hLb16 : LtS rb z16.val := ⟨hr16.lt⟩
      have hLR16 : LtS w.heap.size z16.val := ⟨HT16.out.ltR⟩
      have hLG16 : LtS G z16.val := ⟨HT16.out.ltG⟩
      have K0 : z16.val.cell? ⟨G, 0, none⟩ = some (.slice p0 t.base.length c0) := cell_of_row _ _ 0 _ _ _ HT16.out.box
      have K1 : z16.val.cell? ⟨G, 1, none⟩ = some (.slice p1 t.bs.length c1) := cell_of_row _ _ 1 _ _ _ HT16.out.box
      have K2 : z16.val.cell? ⟨G, 2, none⟩ = some (.slice p2 t.pr.length c2) := cell_of_row _ _ 2 _ _ _ HT16.out.box
      have KF0 : z16.val.frozen? ⟨G, 0, none⟩ = false := frozen_of_row _ _ 0 _ _ HT16.out.box
      have KF1 : z16.val.frozen? ⟨G, 1, none⟩ = false := frozen_of_row _ _ 1 _ _ HT16.out.box
      have KF2 : z16.val.frozen? ⟨G, 2, none⟩ = false := frozen_of_row _ _ 2 _ _ HT16.out.box
      have c0r : z16.val.cell? ⟨w.heap.size, 0, none⟩ = some (.slice none 0 0) := cell_of_row _ _ 0 _ _ _ HT16.out.res
      have c1r : z16.val.cell? ⟨w.heap.size, 1, none⟩ = some (.slice none 0 0) := cell_of_row _ _ 1 _ _ _ HT16.out.res
      have c2r : z16.val.cell? ⟨w.heap.size, 2, none⟩ = some (.slice none 0 0) := cell_of_row _ _ 2 _ _ _ HT16.out.res
      have f0r : z16.val.frozen? ⟨w.heap.size, 0, none⟩ = false := frozen_of_row _ _ 0 _ _ HT16.out.res
      have f1r : z16.val.frozen? ⟨w.heap.size, 1, none⟩ = false := frozen_of_row _ _ 1 _ _ HT16.out.res
      have f2r : z16.val.frozen? ⟨w.heap.size, 2, none⟩ = false := frozen_of_row _ _ 2 _ _ HT16.out.res
      have HLB := Lib.hid (show bs.length = t.bs.length by rw [← HT16.out.core, List.length_map])
      clear y1 hr16 HT15 HR15 hLR hLG14
      rcases (show y = 0 ∨ y = 1 ∨ y = 2 ∨ y = 3 by omega) with rfl | rfl | rfl | rfl
      · obtain ⟨g, off, cb, x, hv1, hoff, hx, hgL, hglo, hcell, hfz⟩ := HT16.out.ot.rowB (m := m) (by rw [HLB.out]; omega)
        rw [HLB.out] at hv1
        cases hv1
        have hGg : G ≠ g := fun e => HT16.out.off.2.1 (by rw [e]; rfl)
        have hNgr : NeS g rb := ⟨by omega⟩
        have hNGg : NeS G g := ⟨hGg⟩
        have hNgG : NeS g G := ⟨fun e => hGg e.symm⟩
        have hNRg : NeS w.heap.size g := ⟨by omega⟩
        have hNgR : NeS g w.heap.size := ⟨by omega⟩
        have HX := Lib.hid hx; have HO := Lib.hid hoff
        obtain ⟨h1, hh1⟩ : ∃ h1 : Int, IntKind.i64.wrap (x.b.ht + 1) = h1 := ⟨_, rfl⟩
        have m0 : (0 : Int) ≤ (m : Int) := by omega
        have m1 : (m : Int) < t.bs.length := by omega
        clear hx hoff hok
        go_upto_region 18 with fail
        go_still_tail 12, (by kernel_rfl)
        go_wp2_with fail
        refine bodyPost_ret (v := .agg #[.slice p0 t.base.length c0, .slice (some ⟨g, off, none⟩) t.bs.length c1, .slice p2 t.pr.length c2]) (by simp [results, Try.results47, go_sem, c0r, c1r, c2r]) rfl ?_
        have ho : off = 0 := HO.out
        subst ho
        have hOT := Lib.hid (HT16.out.ot.setB (j := 1) (u := .int .i64 h1) (x' := ⟨⟨x.b.bf, h1, x.b.vw, x.b.rt, x.b.ef⟩, x.v, x.l⟩) HX.out (by decide) rfl rfl rfl)
        simp only [Nat.zero_add]
        refine ⟨_, _, _, ⟨t.base, (bs.set m ⟨⟨x.b.bf, h1, x.b.vw, x.b.rt, x.b.ef⟩, x.v, x.l⟩).map TB.core, t.pr⟩, bs.set m ⟨⟨x.b.bf, h1, x.b.vw, x.b.rt, x.b.ef⟩, x.v, x.l⟩, rfl, fun e => absurd e hn, by have := HLB.out; simp; omega, rfl, ExtR.of ?_, ?_, ?_⟩
        · refine GB.drew ?_
          (repeat (with_reducible refine GB.setNew ?_ (by omega) _ _))
          exact HT16.out.gb
        · refine Rd.up ?_ (Ext.refl _).drew
          refine Rd.mono (a := lim + 5000 - 600 * 0 + 1 + 1 + 1) ?_ (by omega)
          (repeat (with_reducible refine Rd.set ?_ _ _ (by omega) (by omega)))
          exact HR16.out
        · refine OTA.up ?_ (Ext.refl _).drew
          exact (((hOT.out.setOld _ _ (by show w.heap.size < _; omega)).setOld _ _ (by show w.heap.size < _; omega)).setOld _ _ (by show w.heap.size < _; omega)).lo (by omega)
      · obtain ⟨g, off, cb, x, hv1, hoff, hx, hgL, hglo, hcell, hfz⟩ := HT16.out.ot.rowI (m := m) (by have := HPR.out; omega)
        cases hv1
        have hGg : G ≠ g := fun e => HT16.out.off.2.2.1 (by rw [e]; rfl)
        have hNgr : NeS g rb := ⟨by omega⟩
        have hNGg : NeS G g := ⟨hGg⟩
        have hNgG : NeS g G := ⟨fun e => hGg e.symm⟩
        have hNRg : NeS w.heap.size g := ⟨by omega⟩
        have hNgR : NeS g w.heap.size := ⟨by omega⟩
        have HX := Lib.hid hx; have HO := Lib.hid hoff
        have m0 : (0 : Int) ≤ (m : Int) := by omega
        have m1 : (m : Int) < t.pr.length := by have := HPR.out; omega
        clear hx hoff hok
        go_upto_region 20 with fail
        (go_region_held3 (fun w' => ∀ n i, ∀ [LtS n z16.val] [NeS n rb] [NeS n g], w'.cell? ⟨n, i, none⟩ = World.cell? z16.val ⟨n, i, none⟩) ((first | (refine S_of_gbX (rb := rb) (G := g) ?_; (repeat (first | (with_reducible exact grownBy_refl _ _) | (with_reducible refine GB.setNew ?_ (by first | exact LeS.le | exact LeS.add _ | (simp; done) | (simp; omega)) _ _) | (with_reducible refine GB.alloc ?_ _) | (with_reducible refine GB.drew ?_) | (with_reducible refine GB.upR ?_ _) | (with_reducible refine GB.up ?_ _))); done) | (intro n i hnl hnr hng; simp only [cell_setX]; exact S_of_gbX (rb := rb) (G := g) (by repeat (first | (with_reducible exact grownBy_refl _ _) | (with_reducible refine GB.setNew ?_ (by first | exact LeS.le | exact LeS.add _ | (simp; done) | (simp; omega)) _ _) | (with_reducible refine GB.alloc ?_ _) | (with_reducible refine GB.drew ?_) | (with_reducible refine GB.upR ?_ _) | (with_reducible refine GB.up ?_ _))) n i))) (first | (go_at_call 55; (with_reducible refine (pick_any w0 _ rb _ 5 (HR16.out.up (by repeat (first | (with_reducible exact Ext.refl _) | (with_reducible refine Ext.up ?_ _) | (with_reducible refine Ext.alloc ?_ _) | (with_reducible refine Ext.drew ?_) | (with_reducible refine Ext.setRow ?_ (by first | exact LeS.le | exact LeS.add _ | (simp; done) | (simp; omega)) _) | (with_reducible refine Ext.setCell ?_ (by first | exact LeS.le | exact LeS.add _ | (simp; done) | (simp; omega)) _)))) (by omega) (by omega) (by omega)).mono ?_); rintro e w' ⟨q, rfl, _, _, _, ⟨z17, rfl⟩, hr17⟩; have HR17 := Lib.hid hr17; clear hr17; obtain ⟨h1, hh1⟩ : ∃ h1 : Int, IntKind.i64.wrap (q - 1) = h1 := ⟨_, rfl⟩) | fail))
        all_goals
          have hL17 : LtS rb z17.val := ⟨HR17.out.lt⟩
          go_wp2_with fail
          refine bodyPost_ret (v := .agg #[.slice p0 t.base.length c0, .slice p1 t.bs.length c1, .slice (some ⟨g, off, none⟩) t.pr.length c2]) (by simp [results, Try.results47, go_sem, c0r, c1r, c2r]) rfl ?_
          have ho : off = 0 := HO.out
          subst ho
          have hOT := Lib.hid (OTA.setI (b := h1) (((HT16.out.ot.up (w' := z16.val.drew) (by repeat (first | (with_reducible exact Ext.refl _) | (with_reducible refine Ext.up ?_ _) | (with_reducible refine Ext.alloc ?_ _) | (with_reducible refine Ext.drew ?_) | (with_reducible refine Ext.setRow ?_ (by first | exact LeS.le | exact LeS.add _ | (simp; done) | (simp; omega)) _) | (with_reducible refine Ext.setCell ?_ (by first | exact LeS.le | exact LeS.add _ | (simp; done) | (simp; omega)) _)))).upR (by omega) z17)) HX.out)
          simp only [Nat.zero_add]
          refine ⟨_, _, _, ⟨t.base, t.bs, t.pr.set m h1⟩, bs, rfl, fun e => absurd e hn, ⟨hn1, hn14⟩, HT16.out.core, ExtR.of ?_, ?_, ?_⟩
          · (repeat (with_reducible refine GB.setNew ?_ (by omega) _ _))
            exact GB.upR (GB.drew HT16.out.gb) z17
          · refine Rd.mono (a := lim + 5000 - 600 * 0 + 1 + 1 + 1 + 1) ?_ (by omega)
            (repeat (with_reducible refine Rd.set ?_ _ _ (by omega) (by omega)))
            exact HR17.out
          · exact (((hOT.out.setOld _ _ (by show w.heap.size < _; omega)).setOld _ _ (by show w.heap.size < _; omega)).setOld _ _ (by show w.heap.size < _; omega)).lo (by omega)
      · have hle : w0.heap.size ≤ w.heap.size + 1 := by omega
        have hprl : t.pr.length ≤ 14 := by have := HPR.out; omega
        have hbal : t.base.length ≤ 32 := (Tree.bounds hok.out).1
        have hle2 : w.heap.size + 1 ≤ z16.val.heap.size := by have := HT16.out.ltR; omega
        have hlt2 : rb < w.heap.size + 1 := by omega
        clear K0 K1 K2 KF0 KF1 KF2 c0r c1r c2r f0r f1r f2r
        have K0 : z16.val.cell? ⟨G, 2, none⟩ = some (.slice p2 t.pr.length c2) := cell_of_row _ _ 2 _ _ _ HT16.out.box
        go_wp2_with (at_builtin; refine wpList_pushG fI rfl (.tmp 132) (.tmp 133) rfl encI encI_length w0 (lo := w.heap.size + 1) [0] t.pr rfl HT16.out.ot.opr HR16.out.ext hle hle2 rfl rfl (by go_simp) rfl (oneIs _) (by simp; omega) (by simp; omega) ?_; intro v7 z7 o7 g7 b7; obtain ⟨R7, E7⟩ := rd_push (w := w) HR16.out HT16.out.gb HT16.out.ot.opr hlt2 (Nat.le_add_right _ _) z7.ext g7; obtain ⟨p7, c7, hv7, _, _⟩ := (o7.sl encI_length).openc; obtain ⟨n7, hn7⟩ : ∃ n7, (t.pr ++ [0]).length = n7 := ⟨_, rfl⟩; rw [hn7] at hv7; subst hv7; have HN7 := Lib.hid hn7; clear hn7; have OT7 := Lib.hid (OTA.snocI (HT16.out.ot.up (by repeat (first | (with_reducible exact Ext.refl _) | (with_reducible refine Ext.up ?_ _) | (with_reducible refine Ext.alloc ?_ _) | (with_reducible refine Ext.drew ?_) | (with_reducible refine Ext.setRow ?_ (by first | exact LeS.le | exact LeS.add _ | (simp; done) | (simp; omega)) _) | (with_reducible refine Ext.setCell ?_ (by first | exact LeS.le | exact LeS.add _ | (simp; done) | (simp; omega)) _)))) g7 b7 o7); have B7 : z7.val.heap[G]? = some (.cells #[.slice p0 t.base.length c0, .slice p1 t.bs.length c1, .slice p2 t.pr.length c2] 27 (0, 0)) := (g7.block G (Nat.lt_of_lt_of_le hLG16.lt (by simp)) (fun e => HT16.out.off.2.2.1 e.symm)).trans ((heap_alloc_old _ _ hLG16.lt).trans HT16.out.box); have B8 : z7.val.heap[w.heap.size]? = some (.cells #[.slice none 0 0, .slice none 0 0, .slice none 0 0] 27 (0, 0)) := (g7.block _ (Nat.lt_of_lt_of_le hLR16.lt (by simp)) (fun e => by have := (World.ownsRow.lt HT16.out.ot.opr _ e.symm).1; omega)).trans ((heap_alloc_old _ _ hLR16.lt).trans HT16.out.res); have c0x := cell_of_row _ _ 0 _ _ _ B7; have c1x := cell_of_row _ _ 1 _ _ _ B7; have c2x := cell_of_row _ _ 2 _ _ _ B7; have f0x := frozen_of_row _ _ 0 _ _ B7; have f1x := frozen_of_row _ _ 1 _ _ B7; have f2x := frozen_of_row _ _ 2 _ _ B7; have c0r := cell_of_row _ _ 0 _ _ _ B8; have c1r := cell_of_row _ _ 1 _ _ _ B8; have c2r := cell_of_row _ _ 2 _ _ _ B8; have f0r := frozen_of_row _ _ 0 _ _ B8; have f1r := frozen_of_row _ _ 1 _ _ B8; have f2r := frozen_of_row _ _ 2 _ _ B8; have HR7 := Lib.hid R7; have HE7 := Lib.hid E7; have HB7 := Lib.hid (show (Value.slice p7 n7 c7).ownBlock ≠ some G from (by rcases b7 with e7 | e7 <;> rw [e7]; (exact HT16.out.off.2.2.1); (intro e8; have := hLG16.lt; simp at e8; omega))); clear o7 g7 b7 B7 B8 R7 E7)
        refine bodyPost_ret (v := .agg #[.slice p0 t.base.length c0, .slice p1 t.bs.length c1, .slice p7 n7 c7]) (by simp [results, Try.results47, go_sem, c0r, c1r, c2r]) rfl ?_
        have hgb7 : w.grownBy z7.val (some rb) := by obtain ⟨ze, he⟩ := HE7.out; rw [he]; exact ze.grown
        refine ⟨_, _, _, ⟨t.base, t.bs, t.pr ++ [0]⟩, bs, rfl, fun e => absurd e hn, ⟨hn1, hn14⟩, HT16.out.core, ExtR.of ?_, ?_, ?_⟩
        · (repeat (with_reducible refine GB.setNew ?_ (by omega) _ _))
          exact hgb7
        · refine Rd.mono (a := lim + 5000 - 600 * 0 + 1 + 1 + 1) ?_ (by omega)
          (repeat (with_reducible refine Rd.set ?_ _ _ (by omega) (by omega)))
          exact HR7.out
        · exact ((((OT7.out.set 2 _ HT16.out.off.1 HT16.out.off.2.1 HB7.out HT16.out.off.2.2.2).setOld _ _ (by show w.heap.size < _; omega)).setOld _ _ (by show w.heap.size < _; omega)).setOld _ _ (by show w.heap.size < _; omega)).lo (by omega)
      · have hle : w0.heap.size ≤ w.heap.size + 1 := by omega
        have hprl : t.pr.length ≤ 14 := by have := HPR.out; omega
        have hbal : t.base.length ≤ 32 := (Tree.bounds hok.out).1
        have hle2 : w.heap.size + 1 ≤ z16.val.heap.size := by have := HT16.out.ltR; omega
        have hlt2 : rb < w.heap.size + 1 := by omega
        clear K0 K1 K2 KF0 KF1 KF2 c0r c1r c2r f0r f1r f2r
        have K0 : z16.val.cell? ⟨G, 0, none⟩ = some (.slice p0 t.base.length c0) := cell_of_row _ _ 0 _ _ _ HT16.out.box
        go_wp2_with (at_builtin; refine wpList_pushG fEnt rfl (.tmp 101) (.tmp 103) rfl Ent.enc Ent.enc_length w0 (lo := w.heap.size + 1) [(⟨32, 1⟩ : Ent)] t.base rfl HT16.out.ot.obase HR16.out.ext hle hle2 rfl rfl (by go_simp) rfl (oneEs' _) (by simp; omega) (by simp; omega) ?_; intro v7 z7 o7 g7 b7; obtain ⟨R7, E7⟩ := rd_push (w := w) HR16.out HT16.out.gb HT16.out.ot.obase hlt2 (Nat.le_add_right _ _) z7.ext g7; obtain ⟨p7, c7, hv7, _, _⟩ := (o7.sl Ent.enc_length).openc; obtain ⟨n7, hn7⟩ : ∃ n7, (t.base ++ [(⟨32, 1⟩ : Ent)]).length = n7 := ⟨_, rfl⟩; rw [hn7] at hv7; subst hv7; have HN7 := Lib.hid hn7; clear hn7; have OT7 := Lib.hid (OTA.snocE (HT16.out.ot.up (by repeat (first | (with_reducible exact Ext.refl _) | (with_reducible refine Ext.up ?_ _) | (with_reducible refine Ext.alloc ?_ _) | (with_reducible refine Ext.drew ?_) | (with_reducible refine Ext.setRow ?_ (by first | exact LeS.le | exact LeS.add _ | (simp; done) | (simp; omega)) _) | (with_reducible refine Ext.setCell ?_ (by first | exact LeS.le | exact LeS.add _ | (simp; done) | (simp; omega)) _)))) g7 b7 o7); have B7 : z7.val.heap[G]? = some (.cells #[.slice p0 t.base.length c0, .slice p1 t.bs.length c1, .slice p2 t.pr.length c2] 27 (0, 0)) := (g7.block G (Nat.lt_of_lt_of_le hLG16.lt (by simp)) (fun e => HT16.out.off.1 e.symm)).trans ((heap_alloc_old _ _ hLG16.lt).trans HT16.out.box); have B8 : z7.val.heap[w.heap.size]? = some (.cells #[.slice none 0 0, .slice none 0 0, .slice none 0 0] 27 (0, 0)) := (g7.block _ (Nat.lt_of_lt_of_le hLR16.lt (by simp)) (fun e => by have := (World.ownsRow.lt HT16.out.ot.obase _ e.symm).1; omega)).trans ((heap_alloc_old _ _ hLR16.lt).trans HT16.out.res); have c0x := cell_of_row _ _ 0 _ _ _ B7; have c1x := cell_of_row _ _ 1 _ _ _ B7; have c2x := cell_of_row _ _ 2 _ _ _ B7; have f0x := frozen_of_row _ _ 0 _ _ B7; have f1x := frozen_of_row _ _ 1 _ _ B7; have f2x := frozen_of_row _ _ 2 _ _ B7; have c0r := cell_of_row _ _ 0 _ _ _ B8; have c1r := cell_of_row _ _ 1 _ _ _ B8; have c2r := cell_of_row _ _ 2 _ _ _ B8; have f0r := frozen_of_row _ _ 0 _ _ B8; have f1r := frozen_of_row _ _ 1 _ _ B8; have f2r := frozen_of_row _ _ 2 _ _ B8; have HR7 := Lib.hid R7; have HE7 := Lib.hid E7; have HB7 := Lib.hid (show (Value.slice p7 n7 c7).ownBlock ≠ some G from (by rcases b7 with e7 | e7 <;> rw [e7]; (exact HT16.out.off.1); (intro e8; have := hLG16.lt; simp at e8; omega))); clear o7 g7 b7 B7 B8 R7 E7)
        refine bodyPost_ret (v := .agg #[.slice p7 n7 c7, .slice p1 t.bs.length c1, .slice p2 t.pr.length c2]) (by simp [results, Try.results47, go_sem, c0r, c1r, c2r]) rfl ?_
        have hgb7 : w.grownBy z7.val (some rb) := by obtain ⟨ze, he⟩ := HE7.out; rw [he]; exact ze.grown
        refine ⟨_, _, _, ⟨t.base ++ [(⟨32, 1⟩ : Ent)], t.bs, t.pr⟩, bs, rfl, fun e => absurd e hn, ⟨hn1, hn14⟩, HT16.out.core, ExtR.of ?_, ?_, ?_⟩
        · (repeat (with_reducible refine GB.setNew ?_ (by omega) _ _))
          exact hgb7
        · refine Rd.mono (a := lim + 5000 - 600 * 0 + 1 + 1 + 1) ?_ (by omega)
          (repeat (with_reducible refine Rd.set ?_ _ _ (by omega) (by omega)))
          exact HR7.out
        · exact ((((OT7.out.set 0 _ HB7.out HT16.out.off.2.1 HT16.out.off.2.2.1 HT16.out.off.2.2.2).setOld _ _ (by show w.heap.size < _; omega)).setOld _ _ (by show w.heap.size < _; omega)).setOld _ _ (by show w.heap.size < _; omega)).lo (by omega)
end Go.Proofs.Yteiemjebdhmnaaa
