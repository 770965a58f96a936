/- Walks: drawn engines. -/
import Derived.Test.YtnknamddonjnjaaGEoVTop31
import Derived.Test.YtnknamddonjnjaaGEoVTop23
import Derived.Test.YtnknamddonjnjaaGEoVTop14
set_option linter.unusedSimpArgs false
set_option linter.unusedVariables false
namespace Go.Proofs.Ytnknamddonjnjaa
open Go Go.RowKit Go.Proofs

set_option maxRecDepth 100000 in
set_option maxHeartbeats 4000000 in
theorem drawEngine_any (w0 w : World) (rb : Nat) (lim n : Int) (h : Rd w0 w rb lim) (hl : lim ≤ 10000) (hn0 : 0 ≤ n) (hn1 : n ≤ 1000000) :
    Calls Try.prog 12 #[.pointer (some ⟨rb, 0, none⟩), .int .i64 n] w fun ed w' => ∃ u0 u1 u2 u3, ∃ E : Eng, ed = .returned (.agg #[u0, u1, u2, u3]) ∧ E.vers.length ≤ 1000 ∧ (∃ z : ExtR rb w, w' = z.val) ∧ Rd w0 w' rb (lim + 500) ∧ SGK w.heap.size w' u0 u1 u2 u3 E := by
  have H := Lib.hid h
  have hL : LtS rb w := ⟨h.lt⟩
  have hLe : w0.heap.size ≤ w.heap.size := h.ext.size
  have hlt := h.lt
  have hold := h.old
  clear h
  go_enter Try.func12, Try.ntmps12
  go_wp2_with fail
  refine (drawStore_any w0 _ rb lim 0 (H.out.up (by repeat (first | (with_reducible exact Ext.refl _) | (with_reducible refine Ext.up ?_ _) | (with_reducible refine Ext.alloc ?_ _) | (with_reducible refine Ext.drew ?_) | (with_reducible refine Ext.setRow ?_ (by first | exact LeS.le | exact LeS.add _ | (simp; done) | (simp; omega)) _) | (with_reducible refine Ext.setCell ?_ (by first | exact LeS.le | exact LeS.add _ | (simp; done) | (simp; omega)) _)))) (by omega) (by omega) (by omega)).mono ?_; rintro e w' ⟨vs, s, rfl, hs33, -, ⟨z1, rfl⟩, hr, ho⟩
  have H1 := Lib.hid hr; have HS := Lib.hid ho
  have hz1 := z1.grown.size
  simp at hz1
  clear hr ho
  go_wp2_with fail
  refine (actions_any w0 _ rb _ 0 H1.out (by omega) (by omega) (by omega)).mono ?_; rintro e w' ⟨va, l, rfl, hl11, -, hl6, ⟨z2, rfl⟩, hr, ho⟩
  have H2 := Lib.hid hr; have HA := Lib.hid ho
  have HS2 := Lib.hid (HS.out.upR (by simp; omega) z2)
  have hz2 := z2.grown.size
  clear hr ho
  go_wp2_with fail
  refine (engineOf_any s l _ _ _ (HS2.out.sl Ent.enc_length) (HA.out.sl Actn.enc_length)).mono ?_; rintro e w' ⟨v0, v1, v2, v3, base, acts, vers, ts, rfl, ⟨z3, rfl⟩, ho, hv0, ht10, ha10⟩
  obtain ⟨q0, d0, rfl, _, _⟩ := (ho.base.sl Ent.enc_length).openc
  obtain ⟨q1, d1, rfl, _, _⟩ := (ho.acts.sl Actn.enc_length).openc
  obtain ⟨q2, d2, rfl, _, _⟩ := (ho.vers.sl Ver.enc_length).openc
  obtain ⟨q3, d3, rfl, _, _⟩ := (ho.sl.row.sl TS.enc_length).openc
  have HOG := Lib.hid ho
  have hz3 := z3.ext.size
  have hLG3 : LtS w.heap.size z3.val := ⟨by omega⟩
  have hNB : NeS w.heap.size rb := ⟨by omega⟩
  have rB3 : z3.val.heap[w.heap.size]? = some (.cells #[.slice none 0 0, .slice none 0 0, .slice none 0 0, .slice none 0 0] 28 (0, 0)) := (z3.ext.block (by omega)).trans ((z2.block (by omega) (by omega)).trans ((z1.block (by simp) (by omega)).trans (heap_alloc_new _ _)))
  have HB3 := Lib.hid rB3
  have HV0 := Lib.hid (show vers.length = 0 by rw [hv0]; rfl)
  have G3 := Lib.hid (show w.grownBy z3.val (some rb) from (by repeat (first | (with_reducible exact grownBy_refl _ _) | (with_reducible refine GB.setNew ?_ (by first | exact LeS.le | exact LeS.add _ | (simp; done) | (simp; omega)) _ _) | (with_reducible refine GB.alloc ?_ _) | (with_reducible refine GB.drew ?_) | (with_reducible refine GB.upR ?_ _) | (with_reducible refine GB.up ?_ _))))
  have H3 := Lib.hid (H2.out.up z3.ext)
  clear ho hv0 rB3 HS HS2 HA H1 H2 hs33 hl11 hl6
  go_upto_region 2 with fail
  go_cut [] (fun wr' => EXs rb w.heap.size z3.val.heap.size (lim + 400) w0 w wr')
  case first =>
    obtain ⟨zW, hzW⟩ : ∃ z : Extd z3.val, z3.val.alloc (.cells #[.slice q0 base.length d0, .slice q1 acts.length d1, .slice q2 vers.length d2, .slice q3 ts.length d3] 28) = z.val := ⟨⟨_, (Ext.refl _).alloc _⟩, rfl⟩
    have rG := heap_alloc_new z3.val (.cells #[.slice q0 base.length d0, .slice q1 acts.length d1, .slice q2 vers.length d2, .slice q3 ts.length d3] 28)
    rw [hzW] at rG ⊢
    have HRG := Lib.hid rG
    have hzWs : z3.val.heap.size < zW.val.heap.size := (Array.getElem?_eq_some_iff.1 rG).1
    have hLG : LtS z3.val.heap.size zW.val := ⟨hzWs⟩
    have hNG : NeS z3.val.heap.size rb := ⟨by omega⟩
    have hLrb : LtS rb zW.val := ⟨by omega⟩
    have g0 : zW.val.cell? ⟨z3.val.heap.size, 0, none⟩ = some (.slice q0 base.length d0) := cell_of_row _ _ 0 _ _ _ rG
    have g1 : zW.val.cell? ⟨z3.val.heap.size, 1, none⟩ = some (.slice q1 acts.length d1) := cell_of_row _ _ 1 _ _ _ rG
    have g2 : zW.val.cell? ⟨z3.val.heap.size, 2, none⟩ = some (.slice q2 vers.length d2) := cell_of_row _ _ 2 _ _ _ rG
    have g3 : zW.val.cell? ⟨z3.val.heap.size, 3, none⟩ = some (.slice q3 ts.length d3) := cell_of_row _ _ 3 _ _ _ rG
    have fg0 := frozen_of_row _ _ 0 _ _ rG
    have fg1 := frozen_of_row _ _ 1 _ _ rG
    have fg2 := frozen_of_row _ _ 2 _ _ rG
    have fg3 := frozen_of_row _ _ 3 _ _ rG
    have HSW := Lib.hid (HOG.out.up zW.ext)
    have HW := Lib.hid (H3.out.up zW.ext)
    clear rG hzW HOG H3
    refine wp_region_held_drew (S := (fun _ => True)) (by kernel_rfl) ?_ (fun hHeld => ?_)
    · (try dsimp only)
      all_goals trivial
    refine wpAnyH_take (i := 1) (v := ?_) (opAt rfl) (by kernel_rfl) (by kernel_rfl) (by kernel_rfl) (fun _ _ _ h => h) (Or.inl ⟨by rfl, ?_⟩) (by assumption) ?_
    rotate_left
    · (intro w hSw; (try dsimp only at hSw); go_simp) <;> with_reducible rfl
    try simp only [Act.put, List.setIfInBounds_toArray, List.set_cons_zero, List.set_cons_succ]
    refine wpAnyH_take (i := 2) (v := ?_) (opAt rfl) (by kernel_rfl) (by kernel_rfl) (by kernel_rfl) (fun _ _ _ h => h) (Or.inl ⟨by rfl, ?_⟩) (by assumption) ?_
    rotate_left
    · (intro w hSw; (try dsimp only at hSw); go_simp) <;> with_reducible rfl
    try simp only [Act.put, List.setIfInBounds_toArray, List.set_cons_zero, List.set_cons_succ]
    refine wpAnyH_ready (rs := [0, 3]) (by kernel_rfl) (by simp) ?_
    refine AllReadyH.cons (opAt rfl) (fun K hK => ?_) ?_
    · go_simp
      refine hK.out _ _ ?_ (fun hHeld1 => ?_)
      · (try dsimp only)
        all_goals trivial
      clear hK K hHeld
      have hHeld := hHeld1; clear hHeld1
      try simp only [Act.put, List.setIfInBounds_toArray, List.set_cons_zero, List.set_cons_succ]
      refine wpAnyH_ready (rs := [3]) (by kernel_rfl) (by simp) ?_
      refine AllReadyH.cons (opAt rfl) (fun K hK => ?_) ?_
      · go_simp
        refine hK.out _ _ ?_ (fun hHeld1 => ?_)
        · (try dsimp only)
          all_goals trivial
        clear hK K hHeld
        have hHeld := hHeld1; clear hHeld1
        try simp only [Act.put, List.setIfInBounds_toArray, List.set_cons_zero, List.set_cons_succ]
        refine wpAnyH_take (i := 4) (v := ?_) (opAt rfl) (by kernel_rfl) (by kernel_rfl) (by kernel_rfl) (fun _ _ _ h => h) (Or.inl ⟨by rfl, ?_⟩) (by assumption) ?_
        rotate_left
        · (intro w hSw; (try dsimp only at hSw); go_simp) <;> with_reducible rfl
        try simp only [Act.put, List.setIfInBounds_toArray, List.set_cons_zero, List.set_cons_succ]
        refine wpAnyH_ready (rs := [5]) (by kernel_rfl) (by simp) ?_
        refine AllReadyH.cons (opAt rfl) (fun K hK => ?_) ?_
        · go_simp
          go_at_call 33
          refine (script_any w0 _ rb _ acts.length (HW.out.up (by repeat (first | (with_reducible exact Ext.refl _) | (with_reducible refine Ext.up ?_ _) | (with_reducible refine Ext.alloc ?_ _) | (with_reducible refine Ext.drew ?_) | (with_reducible refine Ext.setRow ?_ (by first | exact LeS.le | exact LeS.add _ | (simp; done) | (simp; omega)) _) | (with_reducible refine Ext.setCell ?_ (by first | exact LeS.le | exact LeS.add _ | (simp; done) | (simp; omega)) _)))) (by omega) (by omega)).mono ?_
          rintro e w' ⟨vc, sc, rfl, hsc, ⟨z4, rfl⟩, hr, ho⟩
          have H4 := Lib.hid hr; have HC := Lib.hid (ho.sl encI_length)
          have hz4 := z4.grown.size
          simp at hz4
          have HSW4 := Lib.hid ((HSW.out.up (Ext.refl _).drew).upR (by omega) z4).sg
          have HRB4 := Lib.hid ((z4.block (by simp; omega) (by omega)).trans ((drew_row _ _).trans ((zW.ext.block (by omega)).trans HB3.out)))
          have HRG4 := Lib.hid ((z4.block (by simp; omega) (by omega)).trans ((drew_row _ _).trans HRG.out))
          have HG4 := Lib.hid (GB.upR (GB.drew (GB.up G3.out zW)) z4)
          clear hr ho

          try go_wp2_with fail
          refine hK.out _ _ ?_ (fun hHeld1 => ?_)
          · (try dsimp only)
            all_goals trivial
          clear hK K hHeld
          have hHeld := hHeld1; clear hHeld1
          try simp only [Act.put, List.setIfInBounds_toArray, List.set_cons_zero, List.set_cons_succ]
          refine wpAnyH_ready (rs := [6]) (by kernel_rfl) (by simp) ?_
          refine AllReadyH.cons (opAt rfl) (fun K hK => ?_) ?_
          · go_simp
            go_at_call 32
            refine (engineRun_any ⟨base, acts, vers, ts.map TS.core⟩ sc _ _ _ _ _ _ (HSW4.out) (by have := HV0.out; show vers.length ≤ 1048576; omega) HC.out).mono ?_
            rintro ed w' ⟨y0, y1, y2, y3, ts', m, E, rfl, ⟨z5, rfl⟩, hts, hinv, ho⟩
            obtain ⟨f0, h0, rfl, _, _⟩ := (ho.g.base.sl Ent.enc_length).openc
            obtain ⟨f1, h1, rfl, _, _⟩ := (ho.g.acts.sl Actn.enc_length).openc
            obtain ⟨f2, h2, rfl, _, _⟩ := (ho.g.vers.sl Ver.enc_length).openc
            obtain ⟨f3, h3, rfl, _, _⟩ := (ho.g.sl.row.sl TS.enc_length).openc
            have HX5 := Lib.hid ho; have HT5 := Lib.hid hts; have HI5 := Lib.hid hinv
            have hz5 := z5.ext.size
            clear ho hts hinv

            try go_wp2_with fail
            refine hK.out _ _ ?_ (fun hHeld1 => ?_)
            · (try dsimp only)
              all_goals trivial
            clear hK K hHeld
            have hHeld := hHeld1; clear hHeld1
            try simp only [Act.put, List.setIfInBounds_toArray, List.set_cons_zero, List.set_cons_succ]
            refine wpAnyH_take (i := 7) (v := ?_) (opAt rfl) (by kernel_rfl) (by kernel_rfl) (by kernel_rfl) (fun _ _ _ h => h) (Or.inl ⟨by rfl, ?_⟩) (by assumption) ?_
            rotate_left
            · (intro w hSw; (try dsimp only at hSw); go_simp) <;> with_reducible rfl
            try simp only [Act.put, List.setIfInBounds_toArray, List.set_cons_zero, List.set_cons_succ]
            refine wpAnyH_take (i := 8) (v := ?_) (opAt rfl) (by kernel_rfl) (by kernel_rfl) (by kernel_rfl) (fun _ _ _ h => h) (Or.inl ⟨by rfl, ?_⟩) (by assumption) ?_
            rotate_left
            · (intro w hSw; (try dsimp only at hSw); go_simp) <;> with_reducible rfl
            try simp only [Act.put, List.setIfInBounds_toArray, List.set_cons_zero, List.set_cons_succ]
            refine wpAnyH_take (i := 9) (v := ?_) (opAt rfl) (by kernel_rfl) (by kernel_rfl) (by kernel_rfl) (fun _ _ _ h => h) (Or.inl ⟨by rfl, ?_⟩) (by assumption) ?_
            rotate_left
            · (intro w hSw; (try dsimp only at hSw); go_simp) <;> with_reducible rfl
            try simp only [Act.put, List.setIfInBounds_toArray, List.set_cons_zero, List.set_cons_succ]
            refine wpAnyH_ready (rs := [10]) (by kernel_rfl) (by simp) ?_
            refine AllReadyH.cons (opAt rfl) (fun K hK => ?_) ?_
            · go_simp
              refine hK.out _ _ ?_ (fun hHeld1 => ?_)
              · (try dsimp only)
                all_goals trivial
              clear hK K hHeld
              have hHeld := hHeld1; clear hHeld1
              try simp only [Act.put, List.setIfInBounds_toArray, List.set_cons_zero, List.set_cons_succ]
              refine wpAnyH_done (by kernel_rfl) ?_ _
              go_wp2_with fail
              go_meet
              have hsm := small_ts HI5.out HT5.out
              exact ⟨_, _, _, _, _, _, _, _, ts', EX.ofRun HG4.out (H4.out.mono (b := lim + 400) (by omega)) HRB4.out HRG4.out z5.ext HX5.out hsm.1 (by omega) (by omega) (by omega), hsm.2⟩
            exact AllReadyH.nil
          exact AllReadyH.nil
        exact AllReadyH.nil
      exact AllReadyH.nil
    refine AllReadyH.cons (opAt rfl) (fun K hK => ?_) ?_
    · go_simp
      refine hK.out _ _ ?_ (fun hHeld1 => ?_)
      · (try dsimp only)
        all_goals trivial
      clear hK K hHeld
      have hHeld := hHeld1; clear hHeld1
      try simp only [Act.put, List.setIfInBounds_toArray, List.set_cons_zero, List.set_cons_succ]
      refine wpAnyH_take (i := 4) (v := ?_) (opAt rfl) (by kernel_rfl) (by kernel_rfl) (by kernel_rfl) (fun _ _ _ h => h) (Or.inl ⟨by rfl, ?_⟩) (by assumption) ?_
      rotate_left
      · (intro w hSw; (try dsimp only at hSw); go_simp) <;> with_reducible rfl
      try simp only [Act.put, List.setIfInBounds_toArray, List.set_cons_zero, List.set_cons_succ]
      refine wpAnyH_ready (rs := [0, 5]) (by kernel_rfl) (by simp) ?_
      refine AllReadyH.cons (opAt rfl) (fun K hK => ?_) ?_
      · go_simp
        refine hK.out _ _ ?_ (fun hHeld1 => ?_)
        · (try dsimp only)
          all_goals trivial
        clear hK K hHeld
        have hHeld := hHeld1; clear hHeld1
        try simp only [Act.put, List.setIfInBounds_toArray, List.set_cons_zero, List.set_cons_succ]
        refine wpAnyH_ready (rs := [5]) (by kernel_rfl) (by simp) ?_
        refine AllReadyH.cons (opAt rfl) (fun K hK => ?_) ?_
        · go_simp
          go_at_call 33
          refine (script_any w0 _ rb _ acts.length (HW.out.up (by repeat (first | (with_reducible exact Ext.refl _) | (with_reducible refine Ext.up ?_ _) | (with_reducible refine Ext.alloc ?_ _) | (with_reducible refine Ext.drew ?_) | (with_reducible refine Ext.setRow ?_ (by first | exact LeS.le | exact LeS.add _ | (simp; done) | (simp; omega)) _) | (with_reducible refine Ext.setCell ?_ (by first | exact LeS.le | exact LeS.add _ | (simp; done) | (simp; omega)) _)))) (by omega) (by omega)).mono ?_
          rintro e w' ⟨vc, sc, rfl, hsc, ⟨z4, rfl⟩, hr, ho⟩
          have H4 := Lib.hid hr; have HC := Lib.hid (ho.sl encI_length)
          have hz4 := z4.grown.size
          simp at hz4
          have HSW4 := Lib.hid ((HSW.out.up (Ext.refl _).drew).upR (by omega) z4).sg
          have HRB4 := Lib.hid ((z4.block (by simp; omega) (by omega)).trans ((drew_row _ _).trans ((zW.ext.block (by omega)).trans HB3.out)))
          have HRG4 := Lib.hid ((z4.block (by simp; omega) (by omega)).trans ((drew_row _ _).trans HRG.out))
          have HG4 := Lib.hid (GB.upR (GB.drew (GB.up G3.out zW)) z4)
          clear hr ho

          try go_wp2_with fail
          refine hK.out _ _ ?_ (fun hHeld1 => ?_)
          · (try dsimp only)
            all_goals trivial
          clear hK K hHeld
          have hHeld := hHeld1; clear hHeld1
          try simp only [Act.put, List.setIfInBounds_toArray, List.set_cons_zero, List.set_cons_succ]
          refine wpAnyH_ready (rs := [6]) (by kernel_rfl) (by simp) ?_
          refine AllReadyH.cons (opAt rfl) (fun K hK => ?_) ?_
          · go_simp
            go_at_call 32
            refine (engineRun_any ⟨base, acts, vers, ts.map TS.core⟩ sc _ _ _ _ _ _ (HSW4.out) (by have := HV0.out; show vers.length ≤ 1048576; omega) HC.out).mono ?_
            rintro ed w' ⟨y0, y1, y2, y3, ts', m, E, rfl, ⟨z5, rfl⟩, hts, hinv, ho⟩
            obtain ⟨f0, h0, rfl, _, _⟩ := (ho.g.base.sl Ent.enc_length).openc
            obtain ⟨f1, h1, rfl, _, _⟩ := (ho.g.acts.sl Actn.enc_length).openc
            obtain ⟨f2, h2, rfl, _, _⟩ := (ho.g.vers.sl Ver.enc_length).openc
            obtain ⟨f3, h3, rfl, _, _⟩ := (ho.g.sl.row.sl TS.enc_length).openc
            have HX5 := Lib.hid ho; have HT5 := Lib.hid hts; have HI5 := Lib.hid hinv
            have hz5 := z5.ext.size
            clear ho hts hinv

            try go_wp2_with fail
            refine hK.out _ _ ?_ (fun hHeld1 => ?_)
            · (try dsimp only)
              all_goals trivial
            clear hK K hHeld
            have hHeld := hHeld1; clear hHeld1
            try simp only [Act.put, List.setIfInBounds_toArray, List.set_cons_zero, List.set_cons_succ]
            refine wpAnyH_take (i := 7) (v := ?_) (opAt rfl) (by kernel_rfl) (by kernel_rfl) (by kernel_rfl) (fun _ _ _ h => h) (Or.inl ⟨by rfl, ?_⟩) (by assumption) ?_
            rotate_left
            · (intro w hSw; (try dsimp only at hSw); go_simp) <;> with_reducible rfl
            try simp only [Act.put, List.setIfInBounds_toArray, List.set_cons_zero, List.set_cons_succ]
            refine wpAnyH_take (i := 8) (v := ?_) (opAt rfl) (by kernel_rfl) (by kernel_rfl) (by kernel_rfl) (fun _ _ _ h => h) (Or.inl ⟨by rfl, ?_⟩) (by assumption) ?_
            rotate_left
            · (intro w hSw; (try dsimp only at hSw); go_simp) <;> with_reducible rfl
            try simp only [Act.put, List.setIfInBounds_toArray, List.set_cons_zero, List.set_cons_succ]
            refine wpAnyH_take (i := 9) (v := ?_) (opAt rfl) (by kernel_rfl) (by kernel_rfl) (by kernel_rfl) (fun _ _ _ h => h) (Or.inl ⟨by rfl, ?_⟩) (by assumption) ?_
            rotate_left
            · (intro w hSw; (try dsimp only at hSw); go_simp) <;> with_reducible rfl
            try simp only [Act.put, List.setIfInBounds_toArray, List.set_cons_zero, List.set_cons_succ]
            refine wpAnyH_ready (rs := [10]) (by kernel_rfl) (by simp) ?_
            refine AllReadyH.cons (opAt rfl) (fun K hK => ?_) ?_
            · go_simp
              refine hK.out _ _ ?_ (fun hHeld1 => ?_)
              · (try dsimp only)
                all_goals trivial
              clear hK K hHeld
              have hHeld := hHeld1; clear hHeld1
              try simp only [Act.put, List.setIfInBounds_toArray, List.set_cons_zero, List.set_cons_succ]
              refine wpAnyH_done (by kernel_rfl) ?_ _
              go_wp2_with fail
              go_meet
              have hsm := small_ts HI5.out HT5.out
              exact ⟨_, _, _, _, _, _, _, _, ts', EX.ofRun HG4.out (H4.out.mono (b := lim + 400) (by omega)) HRB4.out HRG4.out z5.ext HX5.out hsm.1 (by omega) (by omega) (by omega), hsm.2⟩
            exact AllReadyH.nil
          exact AllReadyH.nil
        exact AllReadyH.nil
      refine AllReadyH.cons (opAt rfl) (fun K hK => ?_) ?_
      · go_simp
        go_at_call 33
        refine (script_any w0 _ rb _ acts.length (HW.out.up (by repeat (first | (with_reducible exact Ext.refl _) | (with_reducible refine Ext.up ?_ _) | (with_reducible refine Ext.alloc ?_ _) | (with_reducible refine Ext.drew ?_) | (with_reducible refine Ext.setRow ?_ (by first | exact LeS.le | exact LeS.add _ | (simp; done) | (simp; omega)) _) | (with_reducible refine Ext.setCell ?_ (by first | exact LeS.le | exact LeS.add _ | (simp; done) | (simp; omega)) _)))) (by omega) (by omega)).mono ?_
        rintro e w' ⟨vc, sc, rfl, hsc, ⟨z4, rfl⟩, hr, ho⟩
        have H4 := Lib.hid hr; have HC := Lib.hid (ho.sl encI_length)
        have hz4 := z4.grown.size
        simp at hz4
        have HSW4 := Lib.hid ((HSW.out.up (Ext.refl _).drew).upR (by omega) z4).sg
        have HRB4 := Lib.hid ((z4.block (by simp; omega) (by omega)).trans ((drew_row _ _).trans ((zW.ext.block (by omega)).trans HB3.out)))
        have HRG4 := Lib.hid ((z4.block (by simp; omega) (by omega)).trans ((drew_row _ _).trans HRG.out))
        have HG4 := Lib.hid (GB.upR (GB.drew (GB.up G3.out zW)) z4)
        clear hr ho

        try go_wp2_with fail
        refine hK.out _ _ ?_ (fun hHeld1 => ?_)
        · (try dsimp only)
          all_goals trivial
        clear hK K hHeld
        have hHeld := hHeld1; clear hHeld1
        try simp only [Act.put, List.setIfInBounds_toArray, List.set_cons_zero, List.set_cons_succ]
        refine wpAnyH_ready (rs := [0]) (by kernel_rfl) (by simp) ?_
        refine AllReadyH.cons (opAt rfl) (fun K hK => ?_) ?_
        · go_simp
          refine hK.out _ _ ?_ (fun hHeld1 => ?_)
          · (try dsimp only)
            all_goals trivial
          clear hK K hHeld
          have hHeld := hHeld1; clear hHeld1
          try simp only [Act.put, List.setIfInBounds_toArray, List.set_cons_zero, List.set_cons_succ]
          refine wpAnyH_ready (rs := [6]) (by kernel_rfl) (by simp) ?_
          refine AllReadyH.cons (opAt rfl) (fun K hK => ?_) ?_
          · go_simp
            go_at_call 32
            refine (engineRun_any ⟨base, acts, vers, ts.map TS.core⟩ sc _ _ _ _ _ _ (HSW4.out) (by have := HV0.out; show vers.length ≤ 1048576; omega) HC.out).mono ?_
            rintro ed w' ⟨y0, y1, y2, y3, ts', m, E, rfl, ⟨z5, rfl⟩, hts, hinv, ho⟩
            obtain ⟨f0, h0, rfl, _, _⟩ := (ho.g.base.sl Ent.enc_length).openc
            obtain ⟨f1, h1, rfl, _, _⟩ := (ho.g.acts.sl Actn.enc_length).openc
            obtain ⟨f2, h2, rfl, _, _⟩ := (ho.g.vers.sl Ver.enc_length).openc
            obtain ⟨f3, h3, rfl, _, _⟩ := (ho.g.sl.row.sl TS.enc_length).openc
            have HX5 := Lib.hid ho; have HT5 := Lib.hid hts; have HI5 := Lib.hid hinv
            have hz5 := z5.ext.size
            clear ho hts hinv

            try go_wp2_with fail
            refine hK.out _ _ ?_ (fun hHeld1 => ?_)
            · (try dsimp only)
              all_goals trivial
            clear hK K hHeld
            have hHeld := hHeld1; clear hHeld1
            try simp only [Act.put, List.setIfInBounds_toArray, List.set_cons_zero, List.set_cons_succ]
            refine wpAnyH_take (i := 7) (v := ?_) (opAt rfl) (by kernel_rfl) (by kernel_rfl) (by kernel_rfl) (fun _ _ _ h => h) (Or.inl ⟨by rfl, ?_⟩) (by assumption) ?_
            rotate_left
            · (intro w hSw; (try dsimp only at hSw); go_simp) <;> with_reducible rfl
            try simp only [Act.put, List.setIfInBounds_toArray, List.set_cons_zero, List.set_cons_succ]
            refine wpAnyH_take (i := 8) (v := ?_) (opAt rfl) (by kernel_rfl) (by kernel_rfl) (by kernel_rfl) (fun _ _ _ h => h) (Or.inl ⟨by rfl, ?_⟩) (by assumption) ?_
            rotate_left
            · (intro w hSw; (try dsimp only at hSw); go_simp) <;> with_reducible rfl
            try simp only [Act.put, List.setIfInBounds_toArray, List.set_cons_zero, List.set_cons_succ]
            refine wpAnyH_take (i := 9) (v := ?_) (opAt rfl) (by kernel_rfl) (by kernel_rfl) (by kernel_rfl) (fun _ _ _ h => h) (Or.inl ⟨by rfl, ?_⟩) (by assumption) ?_
            rotate_left
            · (intro w hSw; (try dsimp only at hSw); go_simp) <;> with_reducible rfl
            try simp only [Act.put, List.setIfInBounds_toArray, List.set_cons_zero, List.set_cons_succ]
            refine wpAnyH_ready (rs := [10]) (by kernel_rfl) (by simp) ?_
            refine AllReadyH.cons (opAt rfl) (fun K hK => ?_) ?_
            · go_simp
              refine hK.out _ _ ?_ (fun hHeld1 => ?_)
              · (try dsimp only)
                all_goals trivial
              clear hK K hHeld
              have hHeld := hHeld1; clear hHeld1
              try simp only [Act.put, List.setIfInBounds_toArray, List.set_cons_zero, List.set_cons_succ]
              refine wpAnyH_done (by kernel_rfl) ?_ _
              go_wp2_with fail
              go_meet
              have hsm := small_ts HI5.out HT5.out
              exact ⟨_, _, _, _, _, _, _, _, ts', EX.ofRun HG4.out (H4.out.mono (b := lim + 400) (by omega)) HRB4.out HRG4.out z5.ext HX5.out hsm.1 (by omega) (by omega) (by omega), hsm.2⟩
            exact AllReadyH.nil
          exact AllReadyH.nil
        exact AllReadyH.nil
      exact AllReadyH.nil
    exact AllReadyH.nil
  case rest =>
    obtain ⟨lo, u0, u1, u2, u3, base, acts, vers, ts, hx, ht1, ht2⟩ := hcut
    clear HOG HB3 G3 H3 HV0
    obtain ⟨q0, d0, rfl, _, _⟩ := (hx.ox.g.base.sl Ent.enc_length).openc
    obtain ⟨q1, d1, rfl, _, _⟩ := (hx.ox.g.acts.sl Actn.enc_length).openc
    obtain ⟨q2, d2, rfl, _, _⟩ := (hx.ox.g.vers.sl Ver.enc_length).openc
    obtain ⟨q3, d3, rfl, _, _⟩ := (hx.ox.g.sl.row.sl TS.enc_length).openc
    have HX := Lib.hid hx; have HT2 := Lib.hid ht2
    clear hx ht2
    obtain ⟨zx, rfl⟩ := ExtR.of HX.out.gb
    have hlo := HX.out.hlo
    have hLG : LtS z3.val.heap.size zx.val := ⟨(Array.getElem?_eq_some_iff.1 HX.out.box).1⟩
    have hLB : LtS w.heap.size zx.val := ⟨(Array.getElem?_eq_some_iff.1 HX.out.res).1⟩
    have hNG : NeS z3.val.heap.size rb := ⟨by omega⟩
    have g0 : zx.val.cell? ⟨z3.val.heap.size, 0, none⟩ = some (.slice q0 base.length d0) := cell_of_row _ _ 0 _ _ _ HX.out.box
    have g1 : zx.val.cell? ⟨z3.val.heap.size, 1, none⟩ = some (.slice q1 acts.length d1) := cell_of_row _ _ 1 _ _ _ HX.out.box
    have g2 : zx.val.cell? ⟨z3.val.heap.size, 2, none⟩ = some (.slice q2 vers.length d2) := cell_of_row _ _ 2 _ _ _ HX.out.box
    have g3 : zx.val.cell? ⟨z3.val.heap.size, 3, none⟩ = some (.slice q3 ts.length d3) := cell_of_row _ _ 3 _ _ _ HX.out.box
    have fg0 := frozen_of_row _ _ 0 _ _ HX.out.box
    have fg1 := frozen_of_row _ _ 1 _ _ HX.out.box
    have fg2 := frozen_of_row _ _ 2 _ _ HX.out.box
    have fg3 := frozen_of_row _ _ 3 _ _ HX.out.box
    have cB0 : zx.val.cell? ⟨w.heap.size, 0, none⟩ = some (.slice none 0 0) := cell_of_row _ _ 0 _ _ _ HX.out.res
    have cB1 : zx.val.cell? ⟨w.heap.size, 1, none⟩ = some (.slice none 0 0) := cell_of_row _ _ 1 _ _ _ HX.out.res
    have cB2 : zx.val.cell? ⟨w.heap.size, 2, none⟩ = some (.slice none 0 0) := cell_of_row _ _ 2 _ _ _ HX.out.res
    have cB3 : zx.val.cell? ⟨w.heap.size, 3, none⟩ = some (.slice none 0 0) := cell_of_row _ _ 3 _ _ _ HX.out.res
    have fB0 := frozen_of_row _ _ 0 _ _ HX.out.res
    have fB1 := frozen_of_row _ _ 1 _ _ HX.out.res
    have fB2 := frozen_of_row _ _ 2 _ _ HX.out.res
    have fB3 := frozen_of_row _ _ 3 _ _ HX.out.res
    go_wp2_with fail
    refine (odd_any w0 _ rb _ n HX.out.rd (by omega) (by omega) (by omega)).mono ?_; rintro e w' ⟨bo, rfl, hbo, ⟨z6, rfl⟩, hr⟩
    have HX6 := Lib.hid (HX.out.upR z6 hr)
    clear hr
    rcases bo with _ | _
    · go_upto_region 15 with fail
      have HY := Lib.hid HX6.out.ey
      clear g0 fg0 cB0 fB0 g1 fg1 cB1 fB1 g2 fg2 cB2 fB2 g3 fg3 cB3 fB3
      obtain ⟨zf, hzf⟩ := ExtR.of HY.out.gb
      rw [hzf] at HY ⊢
      clear hzf
      have hLGf : LtS z3.val.heap.size zf.val := ⟨(Array.getElem?_eq_some_iff.1 HY.out.box).1⟩
      have hLBf : LtS w.heap.size zf.val := ⟨(Array.getElem?_eq_some_iff.1 HY.out.res).1⟩
      have hNGf : NeS z3.val.heap.size rb := ⟨by omega⟩
      have g0 : zf.val.cell? ⟨z3.val.heap.size, 0, none⟩ = some (.slice q0 base.length d0) := cell_of_row _ _ 0 _ _ _ HY.out.box
      have g1 : zf.val.cell? ⟨z3.val.heap.size, 1, none⟩ = some (.slice q1 acts.length d1) := cell_of_row _ _ 1 _ _ _ HY.out.box
      have g2 : zf.val.cell? ⟨z3.val.heap.size, 2, none⟩ = some (.slice q2 vers.length d2) := cell_of_row _ _ 2 _ _ _ HY.out.box
      have g3 : zf.val.cell? ⟨z3.val.heap.size, 3, none⟩ = some (.slice q3 ts.length d3) := cell_of_row _ _ 3 _ _ _ HY.out.box
      have fg0 := frozen_of_row _ _ 0 _ _ HY.out.box
      have fg1 := frozen_of_row _ _ 1 _ _ HY.out.box
      have fg2 := frozen_of_row _ _ 2 _ _ HY.out.box
      have fg3 := frozen_of_row _ _ 3 _ _ HY.out.box
      have cB0 : zf.val.cell? ⟨w.heap.size, 0, none⟩ = some (.slice none 0 0) := cell_of_row _ _ 0 _ _ _ HY.out.res
      have cB1 : zf.val.cell? ⟨w.heap.size, 1, none⟩ = some (.slice none 0 0) := cell_of_row _ _ 1 _ _ _ HY.out.res
      have cB2 : zf.val.cell? ⟨w.heap.size, 2, none⟩ = some (.slice none 0 0) := cell_of_row _ _ 2 _ _ _ HY.out.res
      have cB3 : zf.val.cell? ⟨w.heap.size, 3, none⟩ = some (.slice none 0 0) := cell_of_row _ _ 3 _ _ _ HY.out.res
      have fB0 := frozen_of_row _ _ 0 _ _ HY.out.res
      have fB1 := frozen_of_row _ _ 1 _ _ HY.out.res
      have fB2 := frozen_of_row _ _ 2 _ _ HY.out.res
      have fB3 := frozen_of_row _ _ 3 _ _ HY.out.res
      go_upto_region 15 with fail
      go_wp2_with fail
      refine bodyPost_ret (v := .agg #[.slice q0 base.length d0, .slice q1 acts.length d1, .slice q2 vers.length d2, .slice q3 ts.length d3]) (by simp [results, Try.results12, go_sem, cB0, cB1, cB2, cB3]) rfl ?_
      obtain ⟨y1, y2, y3⟩ := HY.out.fin
      refine ⟨_, _, _, _, _, rfl, HY.out.vl, y1, y2.mono ?_, y3⟩
      omega
    clear hbo
    by_cases h0 : 0 < ts.length
    case neg =>
      have hd0 : decide ((0 : Int) < (ts.length : Int)) = false := decide_eq_false (by omega)
      go_upto_region 15 with fail
      have HY := Lib.hid HX6.out.ey
      clear g0 fg0 cB0 fB0 g1 fg1 cB1 fB1 g2 fg2 cB2 fB2 g3 fg3 cB3 fB3
      obtain ⟨zf, hzf⟩ := ExtR.of HY.out.gb
      rw [hzf] at HY ⊢
      clear hzf
      have hLGf : LtS z3.val.heap.size zf.val := ⟨(Array.getElem?_eq_some_iff.1 HY.out.box).1⟩
      have hLBf : LtS w.heap.size zf.val := ⟨(Array.getElem?_eq_some_iff.1 HY.out.res).1⟩
      have hNGf : NeS z3.val.heap.size rb := ⟨by omega⟩
      have g0 : zf.val.cell? ⟨z3.val.heap.size, 0, none⟩ = some (.slice q0 base.length d0) := cell_of_row _ _ 0 _ _ _ HY.out.box
      have g1 : zf.val.cell? ⟨z3.val.heap.size, 1, none⟩ = some (.slice q1 acts.length d1) := cell_of_row _ _ 1 _ _ _ HY.out.box
      have g2 : zf.val.cell? ⟨z3.val.heap.size, 2, none⟩ = some (.slice q2 vers.length d2) := cell_of_row _ _ 2 _ _ _ HY.out.box
      have g3 : zf.val.cell? ⟨z3.val.heap.size, 3, none⟩ = some (.slice q3 ts.length d3) := cell_of_row _ _ 3 _ _ _ HY.out.box
      have fg0 := frozen_of_row _ _ 0 _ _ HY.out.box
      have fg1 := frozen_of_row _ _ 1 _ _ HY.out.box
      have fg2 := frozen_of_row _ _ 2 _ _ HY.out.box
      have fg3 := frozen_of_row _ _ 3 _ _ HY.out.box
      have cB0 : zf.val.cell? ⟨w.heap.size, 0, none⟩ = some (.slice none 0 0) := cell_of_row _ _ 0 _ _ _ HY.out.res
      have cB1 : zf.val.cell? ⟨w.heap.size, 1, none⟩ = some (.slice none 0 0) := cell_of_row _ _ 1 _ _ _ HY.out.res
      have cB2 : zf.val.cell? ⟨w.heap.size, 2, none⟩ = some (.slice none 0 0) := cell_of_row _ _ 2 _ _ _ HY.out.res
      have cB3 : zf.val.cell? ⟨w.heap.size, 3, none⟩ = some (.slice none 0 0) := cell_of_row _ _ 3 _ _ _ HY.out.res
      have fB0 := frozen_of_row _ _ 0 _ _ HY.out.res
      have fB1 := frozen_of_row _ _ 1 _ _ HY.out.res
      have fB2 := frozen_of_row _ _ 2 _ _ HY.out.res
      have fB3 := frozen_of_row _ _ 3 _ _ HY.out.res
      go_upto_region 15 with fail
      go_wp2_with fail
      refine bodyPost_ret (v := .agg #[.slice q0 base.length d0, .slice q1 acts.length d1, .slice q2 vers.length d2, .slice q3 ts.length d3]) (by simp [results, Try.results12, go_sem, cB0, cB1, cB2, cB3]) rfl ?_
      obtain ⟨y1, y2, y3⟩ := HY.out.fin
      refine ⟨_, _, _, _, _, rfl, HY.out.vl, y1, y2.mono ?_, y3⟩
      omega
    have hd0 : decide ((0 : Int) < (ts.length : Int)) = true := decide_eq_true (by omega)
    have hne : ts ≠ [] := List.ne_nil_of_length_pos h0
    obtain ⟨g, c9, e9, hgl⟩ := HX.out.ox.g.sl.at hne
    simp only [Value.slice.injEq] at e9
    obtain ⟨rfl, -, -⟩ := e9
    have hGg : z3.val.heap.size ≠ g := by omega
    have hNg : NeS g rb := ⟨by omega⟩
    go_wp2_with fail
    refine (pick_any w0 _ rb _ ts.length HX6.out.rd (by omega) (by omega) (by omega)).mono ?_; rintro e w' ⟨k, rfl, k0, k1, -, ⟨z7, rfl⟩, hr⟩
    obtain ⟨k, rfl⟩ : ∃ j : Nat, k = j := ⟨k.toNat, by omega⟩
    have k1 := k1 (by omega)
    have HX7 := Lib.hid (HX6.out.upR z7 hr)
    clear hr
    go_wp2_with fail
    refine (pick_any w0 _ rb _ 5 HX7.out.rd (by omega) (by omega) (by omega)).mono ?_; rintro e w' ⟨q, rfl, qq0, qq1, -, ⟨z8, rfl⟩, hr⟩
    have qq1 := qq1 (by omega)
    have HX8 := Lib.hid (HX7.out.upR z8 hr)
    clear hr HX6 HX7
    obtain ⟨x, hx⟩ := getElem?_some_of_lt (l := ts) (k := k) (by omega)
    obtain ⟨hLg, y0, y1, y2, y3, y4, y5, f0, f1, f2, f3, f4, f5⟩ := HX.out.ox.g.sl.row.cells6 hx
    have htx := Lib.hid hx
    have hxr := HT2.out x (List.mem_of_getElem? hx)
    have hz8 : zx.val.heap.size ≤ z8.val.heap.size := Nat.le_trans z6.grown.size (Nat.le_trans z7.grown.size z8.grown.size)
    have hvl := HX.out.vl
    have hlw : w.heap.size ≤ lo := by have := HX.out.hB; have := HX.out.hG; omega
    have hlz : lo ≤ z8.val.heap.size := by have := HX8.out.glo; omega
    clear hx hne
    have hq : q = 0 ∨ q = 1 ∨ q = 2 ∨ q = 3 ∨ q = 4 := by omega
    rcases hq with rfl | rfl | rfl | rfl | rfl
    · go_upto_region 8 with fail
      refine wp_region_held_drew (S := (fun w' => w'.cell? ⟨z3.val.heap.size, 3, none⟩ = some (.slice (some ⟨g, 0, none⟩) ts.length d3))) (by kernel_rfl) ?_ (fun hHeld => ?_)
      · (try dsimp only)
        first | (go_simp; done) | (refine (World.cell?_of_block (Below.heap_setCell _ _ _ _ hGg)).trans ?_; first | exact c37 | (go_simp; done)) | exact c37
      refine wpAnyH_take (i := 0) (v := ?_) (opAt rfl) (by kernel_rfl) (by kernel_rfl) (by kernel_rfl) (fun _ _ _ h => h) (Or.inl ⟨by rfl, ?_⟩) (by assumption) ?_
      rotate_left
      · (intro w hSw; (try dsimp only at hSw); go_simp) <;> with_reducible rfl
      try simp only [Act.put, List.setIfInBounds_toArray, List.set_cons_zero, List.set_cons_succ]
      refine wpAnyH_take (i := 1) (v := ?_) (opAt rfl) (by kernel_rfl) (by kernel_rfl) (by kernel_rfl) (fun _ _ _ h => h) (Or.inl ⟨by rfl, ?_⟩) (by assumption) ?_
      rotate_left
      · (intro w hSw; (try dsimp only at hSw); go_simp) <;> with_reducible rfl
      try simp only [Act.put, List.setIfInBounds_toArray, List.set_cons_zero, List.set_cons_succ]
      refine wpAnyH_take (i := 2) (v := ?_) (opAt rfl) (by kernel_rfl) (by kernel_rfl) (by kernel_rfl) (fun _ _ _ h => h) (Or.inl ⟨by rfl, ?_⟩) (by assumption) ?_
      rotate_left
      · (intro w hSw; (try dsimp only at hSw); go_simp) <;> with_reducible rfl
      try simp only [Act.put, List.setIfInBounds_toArray, List.set_cons_zero, List.set_cons_succ]
      refine wpAnyH_take (i := 3) (v := ?_) (opAt rfl) (by kernel_rfl) (by kernel_rfl) (by kernel_rfl) (fun _ _ _ h => h) (Or.inl ⟨by rfl, ?_⟩) (by assumption) ?_
      rotate_left
      · (intro w hSw; (try dsimp only at hSw); go_simp) <;> with_reducible rfl
      try simp only [Act.put, List.setIfInBounds_toArray, List.set_cons_zero, List.set_cons_succ]
      refine wpAnyH_ready (rs := [4]) (by kernel_rfl) (by simp) ?_
      refine AllReadyH.cons (opAt rfl) (fun K hK => ?_) ?_
      · go_simp
        go_at_call 26
        refine (pick_any w0 _ rb _ 4 HX8.out.drew.rd (by omega) (by omega) (by omega)).mono ?_; rintro e w' ⟨a, rfl, a0, a1, -, ⟨z9, rfl⟩, hr⟩
        have HX9 := Lib.hid (HX8.out.drew.upR z9 hr)
        clear hr

        try go_wp2_with fail
        refine hK.out _ _ ?_ (fun hHeld1 => ?_)
        · (try dsimp only)
          first | (go_simp; done) | (refine (World.cell?_of_block (Below.heap_setCell _ _ _ _ hGg)).trans ?_; first | exact c37 | (go_simp; done)) | exact c37
        clear hK K hHeld
        have hHeld := hHeld1; clear hHeld1
        try simp only [Act.put, List.setIfInBounds_toArray, List.set_cons_zero, List.set_cons_succ]
        refine wpAnyH_take (i := 5) (v := ?_) (opAt rfl) (by kernel_rfl) (by kernel_rfl) (by kernel_rfl) (fun _ _ _ h => h) (Or.inl ⟨by rfl, ?_⟩) (by assumption) ?_
        rotate_left
        · (intro w hSw; (try dsimp only at hSw); go_simp) <;> with_reducible rfl
        try simp only [Act.put, List.setIfInBounds_toArray, List.set_cons_zero, List.set_cons_succ]
        refine wpAnyH_take (i := 6) (v := ?_) (opAt rfl) (by kernel_rfl) (by kernel_rfl) (by kernel_rfl) (fun _ _ _ h => h) (Or.inl ⟨by rfl, ?_⟩) (by assumption) ?_
        rotate_left
        · (intro w hSw; (try dsimp only at hSw); go_simp) <;> with_reducible rfl
        try simp only [Act.put, List.setIfInBounds_toArray, List.set_cons_zero, List.set_cons_succ]
        refine wpAnyH_ready (rs := [7]) (by kernel_rfl) (by simp) ?_
        refine AllReadyH.cons (opAt rfl) (fun K hK => ?_) ?_
        · go_simp
          refine hK.out _ _ ?_ (fun hHeld1 => ?_)
          · (try dsimp only)
            first | (go_simp; done) | (refine (World.cell?_of_block (Below.heap_setCell _ _ _ _ hGg)).trans ?_; first | exact c37 | (go_simp; done)) | exact c37
          clear hK K hHeld
          have hHeld := hHeld1; clear hHeld1
          try simp only [Act.put, List.setIfInBounds_toArray, List.set_cons_zero, List.set_cons_succ]
          refine wpAnyH_done (by kernel_rfl) ?_ _
          have HY := Lib.hid (HX9.out.setSt htx.out a)
          clear g0 fg0 cB0 fB0 g1 fg1 cB1 fB1 g2 fg2 cB2 fB2 g3 fg3 cB3 fB3
          obtain ⟨zf, hzf⟩ := ExtR.of HY.out.gb
          rw [hzf] at HY ⊢
          clear hzf
          have hLGf : LtS z3.val.heap.size zf.val := ⟨(Array.getElem?_eq_some_iff.1 HY.out.box).1⟩
          have hLBf : LtS w.heap.size zf.val := ⟨(Array.getElem?_eq_some_iff.1 HY.out.res).1⟩
          have hNGf : NeS z3.val.heap.size rb := ⟨by omega⟩
          have g0 : zf.val.cell? ⟨z3.val.heap.size, 0, none⟩ = some (.slice q0 base.length d0) := cell_of_row _ _ 0 _ _ _ HY.out.box
          have g1 : zf.val.cell? ⟨z3.val.heap.size, 1, none⟩ = some (.slice q1 acts.length d1) := cell_of_row _ _ 1 _ _ _ HY.out.box
          have g2 : zf.val.cell? ⟨z3.val.heap.size, 2, none⟩ = some (.slice q2 vers.length d2) := cell_of_row _ _ 2 _ _ _ HY.out.box
          have g3 : zf.val.cell? ⟨z3.val.heap.size, 3, none⟩ = some (.slice (some ⟨g, 0, none⟩) ts.length d3) := cell_of_row _ _ 3 _ _ _ HY.out.box
          have fg0 := frozen_of_row _ _ 0 _ _ HY.out.box
          have fg1 := frozen_of_row _ _ 1 _ _ HY.out.box
          have fg2 := frozen_of_row _ _ 2 _ _ HY.out.box
          have fg3 := frozen_of_row _ _ 3 _ _ HY.out.box
          have cB0 : zf.val.cell? ⟨w.heap.size, 0, none⟩ = some (.slice none 0 0) := cell_of_row _ _ 0 _ _ _ HY.out.res
          have cB1 : zf.val.cell? ⟨w.heap.size, 1, none⟩ = some (.slice none 0 0) := cell_of_row _ _ 1 _ _ _ HY.out.res
          have cB2 : zf.val.cell? ⟨w.heap.size, 2, none⟩ = some (.slice none 0 0) := cell_of_row _ _ 2 _ _ _ HY.out.res
          have cB3 : zf.val.cell? ⟨w.heap.size, 3, none⟩ = some (.slice none 0 0) := cell_of_row _ _ 3 _ _ _ HY.out.res
          have fB0 := frozen_of_row _ _ 0 _ _ HY.out.res
          have fB1 := frozen_of_row _ _ 1 _ _ HY.out.res
          have fB2 := frozen_of_row _ _ 2 _ _ HY.out.res
          have fB3 := frozen_of_row _ _ 3 _ _ HY.out.res
          go_upto_region 15 with fail
          go_wp2_with fail
          refine bodyPost_ret (v := .agg #[.slice q0 base.length d0, .slice q1 acts.length d1, .slice q2 vers.length d2, .slice (some ⟨g, 0, none⟩) ts.length d3]) (by simp [results, Try.results12, go_sem, cB0, cB1, cB2, cB3]) rfl ?_
          obtain ⟨y1, y2, y3⟩ := HY.out.fin
          refine ⟨_, _, _, _, _, rfl, HY.out.vl, y1, y2.mono ?_, y3⟩
          omega
        exact AllReadyH.nil
      exact AllReadyH.nil
    · go_upto_region 10 with fail
      refine wp_region_held_drew (S := (fun w' => w'.cell? ⟨z3.val.heap.size, 3, none⟩ = some (.slice (some ⟨g, 0, none⟩) ts.length d3))) (by kernel_rfl) ?_ (fun hHeld => ?_)
      · (try dsimp only)
        first | (go_simp; done) | (refine (World.cell?_of_block (Below.heap_setCell _ _ _ _ hGg)).trans ?_; first | exact c37 | (go_simp; done)) | exact c37
      refine wpAnyH_take (i := 0) (v := ?_) (opAt rfl) (by kernel_rfl) (by kernel_rfl) (by kernel_rfl) (fun _ _ _ h => h) (Or.inl ⟨by rfl, ?_⟩) (by assumption) ?_
      rotate_left
      · (intro w hSw; (try dsimp only at hSw); go_simp) <;> with_reducible rfl
      try simp only [Act.put, List.setIfInBounds_toArray, List.set_cons_zero, List.set_cons_succ]
      refine wpAnyH_take (i := 1) (v := ?_) (opAt rfl) (by kernel_rfl) (by kernel_rfl) (by kernel_rfl) (fun _ _ _ h => h) (Or.inl ⟨by rfl, ?_⟩) (by assumption) ?_
      rotate_left
      · (intro w hSw; (try dsimp only at hSw); go_simp) <;> with_reducible rfl
      try simp only [Act.put, List.setIfInBounds_toArray, List.set_cons_zero, List.set_cons_succ]
      refine wpAnyH_take (i := 2) (v := ?_) (opAt rfl) (by kernel_rfl) (by kernel_rfl) (by kernel_rfl) (fun _ _ _ h => h) (Or.inl ⟨by rfl, ?_⟩) (by assumption) ?_
      rotate_left
      · (intro w hSw; (try dsimp only at hSw); go_simp) <;> with_reducible rfl
      try simp only [Act.put, List.setIfInBounds_toArray, List.set_cons_zero, List.set_cons_succ]
      refine wpAnyH_take (i := 4) (v := ?_) (opAt rfl) (by kernel_rfl) (by kernel_rfl) (by kernel_rfl) (fun _ _ _ h => h) (Or.inl ⟨by rfl, ?_⟩) (by assumption) ?_
      rotate_left
      · (intro w hSw; (try dsimp only at hSw); go_simp) <;> with_reducible rfl
      try simp only [Act.put, List.setIfInBounds_toArray, List.set_cons_zero, List.set_cons_succ]
      refine wpAnyH_ready (rs := [3, 5]) (by kernel_rfl) (by simp) ?_
      refine AllReadyH.cons (opAt rfl) (fun K hK => ?_) ?_
      · go_simp
        refine hK.out _ _ ?_ (fun hHeld1 => ?_)
        · (try dsimp only)
          first | (go_simp; done) | (refine (World.cell?_of_block (Below.heap_setCell _ _ _ _ hGg)).trans ?_; first | exact c37 | (go_simp; done)) | exact c37
        clear hK K hHeld
        have hHeld := hHeld1; clear hHeld1
        try simp only [Act.put, List.setIfInBounds_toArray, List.set_cons_zero, List.set_cons_succ]
        refine wpAnyH_ready (rs := [5]) (by kernel_rfl) (by simp) ?_
        refine AllReadyH.cons (opAt rfl) (fun K hK => ?_) ?_
        · go_simp
          go_at_call 26
          first
            | (refine (pick_any w0 _ rb _ 4 (HX8.out.drew.alloc (.cells #[.int .i64 0, .int .i64 1001, .int .i64 1000, .int .i64 900] 3)).rd (by omega) (by omega) (by omega)).mono ?_; rintro e w' ⟨a, rfl, a0, a1, -, ⟨z9, rfl⟩, hr⟩; have rN : z9.val.heap[z8.val.heap.size]? = some (.cells #[.int .i64 0, .int .i64 1001, .int .i64 1000, .int .i64 900] 3 (0, 0)) := (z9.block (by simp) (by omega)).trans (heap_alloc_at (by simp)))
            | (refine (pick_any w0 _ rb _ 4 HX8.out.drew.rd (by omega) (by omega) (by omega)).mono ?_; rintro e w' ⟨a, rfl, a0, a1, -, ⟨z9, rfl⟩, hr⟩; have rN := trivial)
          have HR9 := Lib.hid hr
          clear hr
          have ha := a1 (by omega)
          obtain ⟨ja, rfl⟩ : ∃ ja : Nat, a = ja := ⟨a.toNat, by omega⟩
          obtain ⟨c, hc⟩ : ∃ c : Int, (#[Value.int .i64 0, Value.int .i64 1001, Value.int .i64 1000, Value.int .i64 900] : Array Value)[ja]? = some (.int .i64 c) := by
            have h4 : ja = 0 ∨ ja = 1 ∨ ja = 2 ∨ ja = 3 := by omega
            rcases h4 with rfl | rfl | rfl | rfl <;> exact ⟨_, rfl⟩
          have hc9 := fun W : World => (cell_of_row _ _ ja _ _ _ (heap_alloc_new W (.cells #[.int .i64 0, .int .i64 1001, .int .i64 1000, .int .i64 900] 3))).trans hc
          try have hc8 := (cell_of_row _ _ ja _ _ _ rN).trans hc
          clear a1 rN

          try go_wp2_with fail
          refine hK.out _ _ ?_ (fun hHeld1 => ?_)
          · (try dsimp only)
            first | (go_simp; done) | (refine (World.cell?_of_block (Below.heap_setCell _ _ _ _ hGg)).trans ?_; first | exact c37 | (go_simp; done)) | exact c37
          clear hK K hHeld
          have hHeld := hHeld1; clear hHeld1
          try simp only [Act.put, List.setIfInBounds_toArray, List.set_cons_zero, List.set_cons_succ]
          refine wpAnyH_take (i := 6) (v := ?_) (opAt rfl) (by kernel_rfl) (by kernel_rfl) (by kernel_rfl) (fun _ _ _ h => h) (Or.inl ⟨by rfl, ?_⟩) (by assumption) ?_
          rotate_left
          · (intro w hSw; (try dsimp only at hSw); go_simp) <;> with_reducible rfl
          try simp only [Act.put, List.setIfInBounds_toArray, List.set_cons_zero, List.set_cons_succ]
          refine wpAnyH_ready (rs := [7]) (by kernel_rfl) (by simp) ?_
          refine AllReadyH.cons (opAt rfl) (fun K hK => ?_) ?_
          · go_simp
            refine hK.out _ _ ?_ (fun hHeld1 => ?_)
            · (try dsimp only)
              first | (go_simp; done) | (refine (World.cell?_of_block (Below.heap_setCell _ _ _ _ hGg)).trans ?_; first | exact c37 | (go_simp; done)) | exact c37
            clear hK K hHeld
            have hHeld := hHeld1; clear hHeld1
            try simp only [Act.put, List.setIfInBounds_toArray, List.set_cons_zero, List.set_cons_succ]
            refine wpAnyH_take (i := 8) (v := ?_) (opAt rfl) (by kernel_rfl) (by kernel_rfl) (by kernel_rfl) (fun _ _ _ h => h) (Or.inl ⟨by rfl, ?_⟩) (by assumption) ?_
            rotate_left
            · (intro w hSw; (try dsimp only at hSw); go_simp) <;> with_reducible rfl
            try simp only [Act.put, List.setIfInBounds_toArray, List.set_cons_zero, List.set_cons_succ]
            refine wpAnyH_take (i := 9) (v := ?_) (opAt rfl) (by kernel_rfl) (by kernel_rfl) (by kernel_rfl) (fun _ _ _ h => h) (Or.inl ⟨by rfl, ?_⟩) (by assumption) ?_
            rotate_left
            · (intro w hSw; (try dsimp only at hSw); go_simp) <;> with_reducible rfl
            try simp only [Act.put, List.setIfInBounds_toArray, List.set_cons_zero, List.set_cons_succ]
            refine wpAnyH_ready (rs := [10]) (by kernel_rfl) (by simp) ?_
            refine AllReadyH.cons (opAt rfl) (fun K hK => ?_) ?_
            · go_simp
              refine hK.out _ _ ?_ (fun hHeld1 => ?_)
              · (try dsimp only)
                first | (go_simp; done) | (refine (World.cell?_of_block (Below.heap_setCell _ _ _ _ hGg)).trans ?_; first | exact c37 | (go_simp; done)) | exact c37
              clear hK K hHeld
              have hHeld := hHeld1; clear hHeld1
              try simp only [Act.put, List.setIfInBounds_toArray, List.set_cons_zero, List.set_cons_succ]
              refine wpAnyH_done (by kernel_rfl) ?_ _
              have HY := Lib.hid (EX.setTr ((HX8.out.drew.alloc (.cells #[.int .i64 0, .int .i64 1001, .int .i64 1000, .int .i64 900] 3)).upR z9 HR9.out) htx.out c)
              clear g0 fg0 cB0 fB0 g1 fg1 cB1 fB1 g2 fg2 cB2 fB2 g3 fg3 cB3 fB3
              obtain ⟨zf, hzf⟩ := ExtR.of HY.out.gb
              rw [hzf] at HY ⊢
              clear hzf
              have hLGf : LtS z3.val.heap.size zf.val := ⟨(Array.getElem?_eq_some_iff.1 HY.out.box).1⟩
              have hLBf : LtS w.heap.size zf.val := ⟨(Array.getElem?_eq_some_iff.1 HY.out.res).1⟩
              have hNGf : NeS z3.val.heap.size rb := ⟨by omega⟩
              have g0 : zf.val.cell? ⟨z3.val.heap.size, 0, none⟩ = some (.slice q0 base.length d0) := cell_of_row _ _ 0 _ _ _ HY.out.box
              have g1 : zf.val.cell? ⟨z3.val.heap.size, 1, none⟩ = some (.slice q1 acts.length d1) := cell_of_row _ _ 1 _ _ _ HY.out.box
              have g2 : zf.val.cell? ⟨z3.val.heap.size, 2, none⟩ = some (.slice q2 vers.length d2) := cell_of_row _ _ 2 _ _ _ HY.out.box
              have g3 : zf.val.cell? ⟨z3.val.heap.size, 3, none⟩ = some (.slice (some ⟨g, 0, none⟩) ts.length d3) := cell_of_row _ _ 3 _ _ _ HY.out.box
              have fg0 := frozen_of_row _ _ 0 _ _ HY.out.box
              have fg1 := frozen_of_row _ _ 1 _ _ HY.out.box
              have fg2 := frozen_of_row _ _ 2 _ _ HY.out.box
              have fg3 := frozen_of_row _ _ 3 _ _ HY.out.box
              have cB0 : zf.val.cell? ⟨w.heap.size, 0, none⟩ = some (.slice none 0 0) := cell_of_row _ _ 0 _ _ _ HY.out.res
              have cB1 : zf.val.cell? ⟨w.heap.size, 1, none⟩ = some (.slice none 0 0) := cell_of_row _ _ 1 _ _ _ HY.out.res
              have cB2 : zf.val.cell? ⟨w.heap.size, 2, none⟩ = some (.slice none 0 0) := cell_of_row _ _ 2 _ _ _ HY.out.res
              have cB3 : zf.val.cell? ⟨w.heap.size, 3, none⟩ = some (.slice none 0 0) := cell_of_row _ _ 3 _ _ _ HY.out.res
              have fB0 := frozen_of_row _ _ 0 _ _ HY.out.res
              have fB1 := frozen_of_row _ _ 1 _ _ HY.out.res
              have fB2 := frozen_of_row _ _ 2 _ _ HY.out.res
              have fB3 := frozen_of_row _ _ 3 _ _ HY.out.res
              go_upto_region 15 with fail
              go_wp2_with fail
              refine bodyPost_ret (v := .agg #[.slice q0 base.length d0, .slice q1 acts.length d1, .slice q2 vers.length d2, .slice (some ⟨g, 0, none⟩) ts.length d3]) (by simp [results, Try.results12, go_sem, cB0, cB1, cB2, cB3]) rfl ?_
              obtain ⟨y1, y2, y3⟩ := HY.out.fin
              refine ⟨_, _, _, _, _, rfl, HY.out.vl, y1, y2.mono ?_, y3⟩
              omega
            exact AllReadyH.nil
          exact AllReadyH.nil
        exact AllReadyH.nil
      refine AllReadyH.cons (opAt rfl) (fun K hK => ?_) ?_
      · go_simp
        go_at_call 26
        first
          | (refine (pick_any w0 _ rb _ 4 (HX8.out.drew.alloc (.cells #[.int .i64 0, .int .i64 1001, .int .i64 1000, .int .i64 900] 3)).rd (by omega) (by omega) (by omega)).mono ?_; rintro e w' ⟨a, rfl, a0, a1, -, ⟨z9, rfl⟩, hr⟩; have rN : z9.val.heap[z8.val.heap.size]? = some (.cells #[.int .i64 0, .int .i64 1001, .int .i64 1000, .int .i64 900] 3 (0, 0)) := (z9.block (by simp) (by omega)).trans (heap_alloc_at (by simp)))
          | (refine (pick_any w0 _ rb _ 4 HX8.out.drew.rd (by omega) (by omega) (by omega)).mono ?_; rintro e w' ⟨a, rfl, a0, a1, -, ⟨z9, rfl⟩, hr⟩; have rN := trivial)
        have HR9 := Lib.hid hr
        clear hr
        have ha := a1 (by omega)
        obtain ⟨ja, rfl⟩ : ∃ ja : Nat, a = ja := ⟨a.toNat, by omega⟩
        obtain ⟨c, hc⟩ : ∃ c : Int, (#[Value.int .i64 0, Value.int .i64 1001, Value.int .i64 1000, Value.int .i64 900] : Array Value)[ja]? = some (.int .i64 c) := by
          have h4 : ja = 0 ∨ ja = 1 ∨ ja = 2 ∨ ja = 3 := by omega
          rcases h4 with rfl | rfl | rfl | rfl <;> exact ⟨_, rfl⟩
        have hc9 := fun W : World => (cell_of_row _ _ ja _ _ _ (heap_alloc_new W (.cells #[.int .i64 0, .int .i64 1001, .int .i64 1000, .int .i64 900] 3))).trans hc
        try have hc8 := (cell_of_row _ _ ja _ _ _ rN).trans hc
        clear a1 rN

        try go_wp2_with fail
        refine hK.out _ _ ?_ (fun hHeld1 => ?_)
        · (try dsimp only)
          first | (go_simp; done) | (refine (World.cell?_of_block (Below.heap_setCell _ _ _ _ hGg)).trans ?_; first | exact c37 | (go_simp; done)) | exact c37
        clear hK K hHeld
        have hHeld := hHeld1; clear hHeld1
        try simp only [Act.put, List.setIfInBounds_toArray, List.set_cons_zero, List.set_cons_succ]
        refine wpAnyH_ready (rs := [3]) (by kernel_rfl) (by simp) ?_
        refine AllReadyH.cons (opAt rfl) (fun K hK => ?_) ?_
        · go_simp
          refine hK.out _ _ ?_ (fun hHeld1 => ?_)
          · (try dsimp only)
            first | (go_simp; done) | (refine (World.cell?_of_block (Below.heap_setCell _ _ _ _ hGg)).trans ?_; first | exact c37 | (go_simp; done)) | exact c37
          clear hK K hHeld
          have hHeld := hHeld1; clear hHeld1
          try simp only [Act.put, List.setIfInBounds_toArray, List.set_cons_zero, List.set_cons_succ]
          refine wpAnyH_take (i := 6) (v := ?_) (opAt rfl) (by kernel_rfl) (by kernel_rfl) (by kernel_rfl) (fun _ _ _ h => h) (Or.inl ⟨by rfl, ?_⟩) (by assumption) ?_
          rotate_left
          · (intro w hSw; (try dsimp only at hSw); go_simp) <;> with_reducible rfl
          try simp only [Act.put, List.setIfInBounds_toArray, List.set_cons_zero, List.set_cons_succ]
          refine wpAnyH_ready (rs := [7]) (by kernel_rfl) (by simp) ?_
          refine AllReadyH.cons (opAt rfl) (fun K hK => ?_) ?_
          · go_simp
            refine hK.out _ _ ?_ (fun hHeld1 => ?_)
            · (try dsimp only)
              first | (go_simp; done) | (refine (World.cell?_of_block (Below.heap_setCell _ _ _ _ hGg)).trans ?_; first | exact c37 | (go_simp; done)) | exact c37
            clear hK K hHeld
            have hHeld := hHeld1; clear hHeld1
            try simp only [Act.put, List.setIfInBounds_toArray, List.set_cons_zero, List.set_cons_succ]
            refine wpAnyH_take (i := 8) (v := ?_) (opAt rfl) (by kernel_rfl) (by kernel_rfl) (by kernel_rfl) (fun _ _ _ h => h) (Or.inl ⟨by rfl, ?_⟩) (by assumption) ?_
            rotate_left
            · (intro w hSw; (try dsimp only at hSw); go_simp) <;> with_reducible rfl
            try simp only [Act.put, List.setIfInBounds_toArray, List.set_cons_zero, List.set_cons_succ]
            refine wpAnyH_take (i := 9) (v := ?_) (opAt rfl) (by kernel_rfl) (by kernel_rfl) (by kernel_rfl) (fun _ _ _ h => h) (Or.inl ⟨by rfl, ?_⟩) (by assumption) ?_
            rotate_left
            · (intro w hSw; (try dsimp only at hSw); go_simp) <;> with_reducible rfl
            try simp only [Act.put, List.setIfInBounds_toArray, List.set_cons_zero, List.set_cons_succ]
            refine wpAnyH_ready (rs := [10]) (by kernel_rfl) (by simp) ?_
            refine AllReadyH.cons (opAt rfl) (fun K hK => ?_) ?_
            · go_simp
              refine hK.out _ _ ?_ (fun hHeld1 => ?_)
              · (try dsimp only)
                first | (go_simp; done) | (refine (World.cell?_of_block (Below.heap_setCell _ _ _ _ hGg)).trans ?_; first | exact c37 | (go_simp; done)) | exact c37
              clear hK K hHeld
              have hHeld := hHeld1; clear hHeld1
              try simp only [Act.put, List.setIfInBounds_toArray, List.set_cons_zero, List.set_cons_succ]
              refine wpAnyH_done (by kernel_rfl) ?_ _
              have HY := Lib.hid (EX.setTr ((HX8.out.drew.upR z9 HR9.out).alloc (.cells #[.int .i64 0, .int .i64 1001, .int .i64 1000, .int .i64 900] 3)) htx.out c)
              clear g0 fg0 cB0 fB0 g1 fg1 cB1 fB1 g2 fg2 cB2 fB2 g3 fg3 cB3 fB3
              obtain ⟨zf, hzf⟩ := ExtR.of HY.out.gb
              rw [hzf] at HY ⊢
              clear hzf
              have hLGf : LtS z3.val.heap.size zf.val := ⟨(Array.getElem?_eq_some_iff.1 HY.out.box).1⟩
              have hLBf : LtS w.heap.size zf.val := ⟨(Array.getElem?_eq_some_iff.1 HY.out.res).1⟩
              have hNGf : NeS z3.val.heap.size rb := ⟨by omega⟩
              have g0 : zf.val.cell? ⟨z3.val.heap.size, 0, none⟩ = some (.slice q0 base.length d0) := cell_of_row _ _ 0 _ _ _ HY.out.box
              have g1 : zf.val.cell? ⟨z3.val.heap.size, 1, none⟩ = some (.slice q1 acts.length d1) := cell_of_row _ _ 1 _ _ _ HY.out.box
              have g2 : zf.val.cell? ⟨z3.val.heap.size, 2, none⟩ = some (.slice q2 vers.length d2) := cell_of_row _ _ 2 _ _ _ HY.out.box
              have g3 : zf.val.cell? ⟨z3.val.heap.size, 3, none⟩ = some (.slice (some ⟨g, 0, none⟩) ts.length d3) := cell_of_row _ _ 3 _ _ _ HY.out.box
              have fg0 := frozen_of_row _ _ 0 _ _ HY.out.box
              have fg1 := frozen_of_row _ _ 1 _ _ HY.out.box
              have fg2 := frozen_of_row _ _ 2 _ _ HY.out.box
              have fg3 := frozen_of_row _ _ 3 _ _ HY.out.box
              have cB0 : zf.val.cell? ⟨w.heap.size, 0, none⟩ = some (.slice none 0 0) := cell_of_row _ _ 0 _ _ _ HY.out.res
              have cB1 : zf.val.cell? ⟨w.heap.size, 1, none⟩ = some (.slice none 0 0) := cell_of_row _ _ 1 _ _ _ HY.out.res
              have cB2 : zf.val.cell? ⟨w.heap.size, 2, none⟩ = some (.slice none 0 0) := cell_of_row _ _ 2 _ _ _ HY.out.res
              have cB3 : zf.val.cell? ⟨w.heap.size, 3, none⟩ = some (.slice none 0 0) := cell_of_row _ _ 3 _ _ _ HY.out.res
              have fB0 := frozen_of_row _ _ 0 _ _ HY.out.res
              have fB1 := frozen_of_row _ _ 1 _ _ HY.out.res
              have fB2 := frozen_of_row _ _ 2 _ _ HY.out.res
              have fB3 := frozen_of_row _ _ 3 _ _ HY.out.res
              go_upto_region 15 with fail
              go_wp2_with fail
              refine bodyPost_ret (v := .agg #[.slice q0 base.length d0, .slice q1 acts.length d1, .slice q2 vers.length d2, .slice (some ⟨g, 0, none⟩) ts.length d3]) (by simp [results, Try.results12, go_sem, cB0, cB1, cB2, cB3]) rfl ?_
              obtain ⟨y1, y2, y3⟩ := HY.out.fin
              refine ⟨_, _, _, _, _, rfl, HY.out.vl, y1, y2.mono ?_, y3⟩
              omega
            exact AllReadyH.nil
          exact AllReadyH.nil
        exact AllReadyH.nil
      exact AllReadyH.nil
    · have HXa := Lib.hid (HX8.out.alloc (.cells #[.int .i64 31, .int .i64 9, .int .i64 1] 32))
      go_upto_region 15 with (at_builtin; refine wpList_pushG fVer rfl (.tmp 66) (.tmp 68) rfl Ver.enc Ver.enc_length w0 (lo := lo) [⟨31, 9, 1⟩] vers rfl HX8.out.ox.g.vers HX8.out.rd.ext (by omega) (by omega) rfl rfl (by go_simp) rfl (oneVs _) (by simp; omega) (by simp; omega) ?_; intro v9 z9 o7 g7 b7; have HO7 := Lib.hid o7; have HG7 := Lib.hid g7; (obtain ⟨p7, n7, c7, hv7⟩ : ∃ p n c, v9 = Value.slice p n c := (by obtain ⟨p, c, hv, _, _⟩ := (o7.sl Ver.enc_length).openc; exact ⟨p, _, c, hv⟩)); subst hv7; have rG7 := (grown_at HXa.out.ox.g.vers g7 hlo (Array.getElem?_eq_some_iff.1 HXa.out.box).1).trans HXa.out.box; have c27 := cell_of_row _ _ 2 _ _ _ rG7; have f27 := frozen_of_row _ _ 2 _ _ rG7; clear o7 g7 b7 rG7)
      have HY := Lib.hid (HXa.out.pushV z9.ext HG7.out HO7.out (by simp; omega))
      clear g0 fg0 cB0 fB0 g1 fg1 cB1 fB1 g2 fg2 cB2 fB2 g3 fg3 cB3 fB3
      obtain ⟨zf, hzf⟩ := ExtR.of HY.out.gb
      rw [hzf] at HY ⊢
      clear hzf
      have hLGf : LtS z3.val.heap.size zf.val := ⟨(Array.getElem?_eq_some_iff.1 HY.out.box).1⟩
      have hLBf : LtS w.heap.size zf.val := ⟨(Array.getElem?_eq_some_iff.1 HY.out.res).1⟩
      have hNGf : NeS z3.val.heap.size rb := ⟨by omega⟩
      have g0 : zf.val.cell? ⟨z3.val.heap.size, 0, none⟩ = some (.slice q0 base.length d0) := cell_of_row _ _ 0 _ _ _ HY.out.box
      have g1 : zf.val.cell? ⟨z3.val.heap.size, 1, none⟩ = some (.slice q1 acts.length d1) := cell_of_row _ _ 1 _ _ _ HY.out.box
      have g2 : zf.val.cell? ⟨z3.val.heap.size, 2, none⟩ = some (.slice p7 n7 c7) := cell_of_row _ _ 2 _ _ _ HY.out.box
      have g3 : zf.val.cell? ⟨z3.val.heap.size, 3, none⟩ = some (.slice (some ⟨g, 0, none⟩) ts.length d3) := cell_of_row _ _ 3 _ _ _ HY.out.box
      have fg0 := frozen_of_row _ _ 0 _ _ HY.out.box
      have fg1 := frozen_of_row _ _ 1 _ _ HY.out.box
      have fg2 := frozen_of_row _ _ 2 _ _ HY.out.box
      have fg3 := frozen_of_row _ _ 3 _ _ HY.out.box
      have cB0 : zf.val.cell? ⟨w.heap.size, 0, none⟩ = some (.slice none 0 0) := cell_of_row _ _ 0 _ _ _ HY.out.res
      have cB1 : zf.val.cell? ⟨w.heap.size, 1, none⟩ = some (.slice none 0 0) := cell_of_row _ _ 1 _ _ _ HY.out.res
      have cB2 : zf.val.cell? ⟨w.heap.size, 2, none⟩ = some (.slice none 0 0) := cell_of_row _ _ 2 _ _ _ HY.out.res
      have cB3 : zf.val.cell? ⟨w.heap.size, 3, none⟩ = some (.slice none 0 0) := cell_of_row _ _ 3 _ _ _ HY.out.res
      have fB0 := frozen_of_row _ _ 0 _ _ HY.out.res
      have fB1 := frozen_of_row _ _ 1 _ _ HY.out.res
      have fB2 := frozen_of_row _ _ 2 _ _ HY.out.res
      have fB3 := frozen_of_row _ _ 3 _ _ HY.out.res
      go_upto_region 15 with fail
      go_wp2_with fail
      refine bodyPost_ret (v := .agg #[.slice q0 base.length d0, .slice q1 acts.length d1, .slice p7 n7 c7, .slice (some ⟨g, 0, none⟩) ts.length d3]) (by simp [results, Try.results12, go_sem, cB0, cB1, cB2, cB3]) rfl ?_
      obtain ⟨y1, y2, y3⟩ := HY.out.fin
      refine ⟨_, _, _, _, _, rfl, HY.out.vl, y1, y2.mono ?_, y3⟩
      omega
    · go_upto_region 14 with fail
      refine wp_region_held_drew (S := (fun w' => w'.cell? ⟨z3.val.heap.size, 3, none⟩ = some (.slice (some ⟨g, 0, none⟩) ts.length d3))) (by kernel_rfl) ?_ (fun hHeld => ?_)
      · (try dsimp only)
        first | (go_simp; done) | (refine (World.cell?_of_block (Below.heap_setCell _ _ _ _ hGg)).trans ?_; first | exact c37 | (go_simp; done)) | exact c37
      refine wpAnyH_take (i := 0) (v := ?_) (opAt rfl) (by kernel_rfl) (by kernel_rfl) (by kernel_rfl) (fun _ _ _ h => h) (Or.inl ⟨by rfl, ?_⟩) (by assumption) ?_
      rotate_left
      · (intro w hSw; (try dsimp only at hSw); go_simp) <;> with_reducible rfl
      try simp only [Act.put, List.setIfInBounds_toArray, List.set_cons_zero, List.set_cons_succ]
      refine wpAnyH_take (i := 1) (v := ?_) (opAt rfl) (by kernel_rfl) (by kernel_rfl) (by kernel_rfl) (fun _ _ _ h => h) (Or.inl ⟨by rfl, ?_⟩) (by assumption) ?_
      rotate_left
      · (intro w hSw; (try dsimp only at hSw); go_simp) <;> with_reducible rfl
      try simp only [Act.put, List.setIfInBounds_toArray, List.set_cons_zero, List.set_cons_succ]
      refine wpAnyH_take (i := 2) (v := ?_) (opAt rfl) (by kernel_rfl) (by kernel_rfl) (by kernel_rfl) (fun _ _ _ h => h) (Or.inl ⟨by rfl, ?_⟩) (by assumption) ?_
      rotate_left
      · (intro w hSw; (try dsimp only at hSw); go_simp) <;> with_reducible rfl
      try simp only [Act.put, List.setIfInBounds_toArray, List.set_cons_zero, List.set_cons_succ]
      refine wpAnyH_take (i := 3) (v := ?_) (opAt rfl) (by kernel_rfl) (by kernel_rfl) (by kernel_rfl) (fun _ _ _ h => h) (Or.inl ⟨by rfl, ?_⟩) (by assumption) ?_
      rotate_left
      · (intro w hSw; (try dsimp only at hSw); go_simp) <;> with_reducible rfl
      try simp only [Act.put, List.setIfInBounds_toArray, List.set_cons_zero, List.set_cons_succ]
      refine wpAnyH_take (i := 4) (v := ?_) (opAt rfl) (by kernel_rfl) (by kernel_rfl) (by kernel_rfl) (fun _ _ _ h => h) (Or.inl ⟨by rfl, ?_⟩) (by assumption) ?_
      rotate_left
      · (intro w hSw; (try dsimp only at hSw); go_simp) <;> with_reducible rfl
      try simp only [Act.put, List.setIfInBounds_toArray, List.set_cons_zero, List.set_cons_succ]
      refine wpAnyH_take (i := 5) (v := ?_) (opAt rfl) (by kernel_rfl) (by kernel_rfl) (by kernel_rfl) (fun _ _ _ h => h) (Or.inl ⟨by rfl, ?_⟩) (by assumption) ?_
      rotate_left
      · (intro w hSw; (try dsimp only at hSw); go_simp) <;> with_reducible rfl
      try simp only [Act.put, List.setIfInBounds_toArray, List.set_cons_zero, List.set_cons_succ]
      refine wpAnyH_take (i := 6) (v := ?_) (opAt rfl) (by kernel_rfl) (by kernel_rfl) (by kernel_rfl) (fun _ _ _ h => h) (Or.inl ⟨by rfl, ?_⟩) (by assumption) ?_
      rotate_left
      · (intro w hSw; (try dsimp only at hSw); go_simp) <;> with_reducible rfl
      try simp only [Act.put, List.setIfInBounds_toArray, List.set_cons_zero, List.set_cons_succ]
      refine wpAnyH_take (i := 7) (v := ?_) (opAt rfl) (by kernel_rfl) (by kernel_rfl) (by kernel_rfl) (fun _ _ _ h => h) (Or.inl ⟨by rfl, ?_⟩) (by assumption) ?_
      rotate_left
      · (intro w hSw; (try dsimp only at hSw); go_simp) <;> with_reducible rfl
      try simp only [Act.put, List.setIfInBounds_toArray, List.set_cons_zero, List.set_cons_succ]
      refine wpAnyH_take (i := 8) (v := ?_) (opAt rfl) (by kernel_rfl) (by kernel_rfl) (by kernel_rfl) (fun _ _ _ h => h) (Or.inl ⟨by rfl, ?_⟩) (by assumption) ?_
      rotate_left
      · (intro w hSw; (try dsimp only at hSw); go_simp) <;> with_reducible rfl
      try simp only [Act.put, List.setIfInBounds_toArray, List.set_cons_zero, List.set_cons_succ]
      refine wpAnyH_take (i := 10) (v := ?_) (opAt rfl) (by kernel_rfl) (by kernel_rfl) (by kernel_rfl) (fun _ _ _ h => h) (Or.inl ⟨by rfl, ?_⟩) (by assumption) ?_
      rotate_left
      · (intro w hSw; (try dsimp only at hSw); go_simp) <;> with_reducible rfl
      try simp only [Act.put, List.setIfInBounds_toArray, List.set_cons_zero, List.set_cons_succ]
      refine wpAnyH_ready (rs := [9, 11]) (by kernel_rfl) (by simp) ?_
      refine AllReadyH.cons (opAt rfl) (fun K hK => ?_) ?_
      · go_simp
        refine hK.out _ _ ?_ (fun hHeld1 => ?_)
        · (try dsimp only)
          first | (go_simp; done) | (refine (World.cell?_of_block (Below.heap_setCell _ _ _ _ hGg)).trans ?_; first | exact c37 | (go_simp; done)) | exact c37
        clear hK K hHeld
        have hHeld := hHeld1; clear hHeld1
        try simp only [Act.put, List.setIfInBounds_toArray, List.set_cons_zero, List.set_cons_succ]
        refine wpAnyH_ready (rs := [11]) (by kernel_rfl) (by simp) ?_
        refine AllReadyH.cons (opAt rfl) (fun K hK => ?_) ?_
        · go_simp
          refine hK.out _ _ ?_ (fun hHeld1 => ?_)
          · (try dsimp only)
            first | (go_simp; done) | (refine (World.cell?_of_block (Below.heap_setCell _ _ _ _ hGg)).trans ?_; first | exact c37 | (go_simp; done)) | exact c37
          clear hK K hHeld
          have hHeld := hHeld1; clear hHeld1
          try simp only [Act.put, List.setIfInBounds_toArray, List.set_cons_zero, List.set_cons_succ]
          refine wpAnyH_ready (rs := [12]) (by kernel_rfl) (by simp) ?_
          refine AllReadyH.cons (opAt rfl) (fun K hK => ?_) ?_
          · have HXa := Lib.hid (HX8.out.drew.alloc (.cells #[.int .i64 0, .int .i64 0] 59))
            refine step_pushG fEnt (by rfl) (.tmp 82) (.tmp 84) (by rfl) Ent.enc Ent.enc_length w0 (lo := lo) [(⟨0, 0⟩ : Ent)] x.r (by rfl) (by rfl) (heap_alloc_at (by first | rfl | (simp; done))) (HXa.out.ox.g.sl.deep x (List.mem_of_getElem? htx.out)).2.1 HXa.out.rd.ext (by omega) (by first | omega | (simp; omega)) (by rfl) (by decide) (by rfl) (oneEs' _) (by simp; omega) (by simp; omega) ?_
            intro v7 z7 o7 g7 b7
            have HO7 := Lib.hid o7; have HG7 := Lib.hid g7
            obtain ⟨p7, n7, c7, hv7⟩ : ∃ p n c, v7 = Value.slice p n c := (by obtain ⟨p, c, hv, _, _⟩ := (o7.sl Ent.enc_length).openc; exact ⟨p, _, c, hv⟩)
            subst hv7
            have hxv := (HXa.out.ox.g.sl.deep x (List.mem_of_getElem? htx.out)).2.1
            have rG7 := (grown_at hxv g7 hlo (Array.getElem?_eq_some_iff.1 HXa.out.box).1).trans HXa.out.box
            have c37 : z7.val.cell? ⟨z3.val.heap.size, 3, none⟩ = some (.slice (some ⟨g, 0, none⟩) ts.length d3) := cell_of_row _ _ 3 _ _ _ rG7
            have HRW := HXa.out.ox.g.sl.row.keep g7 (HXa.out.ox.g.sl.out x (List.mem_of_getElem? htx.out) _ (by simp [TS.parts])).symm
            obtain ⟨hLg7, -, -, -, -, w4, -, -, -, -, -, wf4, -⟩ := HRW.cells6 htx.out
            clear o7 g7 b7 rG7 hxv HRW

            refine hK.out _ _ ?_ (fun hHeld1 => ?_)
            · (try dsimp only)
              first | (go_simp; done) | (refine (World.cell?_of_block (Below.heap_setCell _ _ _ _ hGg)).trans ?_; first | exact c37 | (go_simp; done)) | exact c37
            clear hK K hHeld
            have hHeld := hHeld1; clear hHeld1
            try simp only [Act.put, List.setIfInBounds_toArray, List.set_cons_zero, List.set_cons_succ]
            refine wpAnyH_take (i := 13) (v := ?_) (opAt rfl) (by kernel_rfl) (by kernel_rfl) (by kernel_rfl) (fun _ _ _ h => h) (Or.inl ⟨by rfl, ?_⟩) (by assumption) ?_
            rotate_left
            · (intro w hSw; (try dsimp only at hSw); go_simp) <;> with_reducible rfl
            try simp only [Act.put, List.setIfInBounds_toArray, List.set_cons_zero, List.set_cons_succ]
            refine wpAnyH_take (i := 14) (v := ?_) (opAt rfl) (by kernel_rfl) (by kernel_rfl) (by kernel_rfl) (fun _ _ _ h => h) (Or.inl ⟨by rfl, ?_⟩) (by assumption) ?_
            rotate_left
            · (intro w hSw; (try dsimp only at hSw); go_simp) <;> with_reducible rfl
            try simp only [Act.put, List.setIfInBounds_toArray, List.set_cons_zero, List.set_cons_succ]
            refine wpAnyH_take (i := 15) (v := ?_) (opAt rfl) (by kernel_rfl) (by kernel_rfl) (by kernel_rfl) (fun _ _ _ h => h) (Or.inl ⟨by rfl, ?_⟩) (by assumption) ?_
            rotate_left
            · (intro w hSw; (try dsimp only at hSw); go_simp) <;> with_reducible rfl
            try simp only [Act.put, List.setIfInBounds_toArray, List.set_cons_zero, List.set_cons_succ]
            refine wpAnyH_ready (rs := [16]) (by kernel_rfl) (by simp) ?_
            refine AllReadyH.cons (opAt rfl) (fun K hK => ?_) ?_
            · go_simp
              refine hK.out _ _ ?_ (fun hHeld1 => ?_)
              · (try dsimp only)
                first | (go_simp; done) | (refine (World.cell?_of_block (Below.heap_setCell _ _ _ _ hGg)).trans ?_; first | exact c37 | (go_simp; done)) | exact c37
              clear hK K hHeld
              have hHeld := hHeld1; clear hHeld1
              try simp only [Act.put, List.setIfInBounds_toArray, List.set_cons_zero, List.set_cons_succ]
              refine wpAnyH_done (by kernel_rfl) ?_ _
              rw [show k * 6 + 3 + 1 = k * 6 + 4 from rfl]
              have HY := Lib.hid (HXa.out.pushR htx.out z7.ext HG7.out HO7.out)
              clear g0 fg0 cB0 fB0 g1 fg1 cB1 fB1 g2 fg2 cB2 fB2 g3 fg3 cB3 fB3
              obtain ⟨zf, hzf⟩ := ExtR.of HY.out.gb
              rw [hzf] at HY ⊢
              clear hzf
              have hLGf : LtS z3.val.heap.size zf.val := ⟨(Array.getElem?_eq_some_iff.1 HY.out.box).1⟩
              have hLBf : LtS w.heap.size zf.val := ⟨(Array.getElem?_eq_some_iff.1 HY.out.res).1⟩
              have hNGf : NeS z3.val.heap.size rb := ⟨by omega⟩
              have g0 : zf.val.cell? ⟨z3.val.heap.size, 0, none⟩ = some (.slice q0 base.length d0) := cell_of_row _ _ 0 _ _ _ HY.out.box
              have g1 : zf.val.cell? ⟨z3.val.heap.size, 1, none⟩ = some (.slice q1 acts.length d1) := cell_of_row _ _ 1 _ _ _ HY.out.box
              have g2 : zf.val.cell? ⟨z3.val.heap.size, 2, none⟩ = some (.slice q2 vers.length d2) := cell_of_row _ _ 2 _ _ _ HY.out.box
              have g3 : zf.val.cell? ⟨z3.val.heap.size, 3, none⟩ = some (.slice (some ⟨g, 0, none⟩) ts.length d3) := cell_of_row _ _ 3 _ _ _ HY.out.box
              have fg0 := frozen_of_row _ _ 0 _ _ HY.out.box
              have fg1 := frozen_of_row _ _ 1 _ _ HY.out.box
              have fg2 := frozen_of_row _ _ 2 _ _ HY.out.box
              have fg3 := frozen_of_row _ _ 3 _ _ HY.out.box
              have cB0 : zf.val.cell? ⟨w.heap.size, 0, none⟩ = some (.slice none 0 0) := cell_of_row _ _ 0 _ _ _ HY.out.res
              have cB1 : zf.val.cell? ⟨w.heap.size, 1, none⟩ = some (.slice none 0 0) := cell_of_row _ _ 1 _ _ _ HY.out.res
              have cB2 : zf.val.cell? ⟨w.heap.size, 2, none⟩ = some (.slice none 0 0) := cell_of_row _ _ 2 _ _ _ HY.out.res
              have cB3 : zf.val.cell? ⟨w.heap.size, 3, none⟩ = some (.slice none 0 0) := cell_of_row _ _ 3 _ _ _ HY.out.res
              have fB0 := frozen_of_row _ _ 0 _ _ HY.out.res
              have fB1 := frozen_of_row _ _ 1 _ _ HY.out.res
              have fB2 := frozen_of_row _ _ 2 _ _ HY.out.res
              have fB3 := frozen_of_row _ _ 3 _ _ HY.out.res
              go_upto_region 15 with fail
              go_wp2_with fail
              refine bodyPost_ret (v := .agg #[.slice q0 base.length d0, .slice q1 acts.length d1, .slice q2 vers.length d2, .slice (some ⟨g, 0, none⟩) ts.length d3]) (by simp [results, Try.results12, go_sem, cB0, cB1, cB2, cB3]) rfl ?_
              obtain ⟨y1, y2, y3⟩ := HY.out.fin
              refine ⟨_, _, _, _, _, rfl, HY.out.vl, y1, y2.mono ?_, y3⟩
              omega
            exact AllReadyH.nil
          exact AllReadyH.nil
        exact AllReadyH.nil
      refine AllReadyH.cons (opAt rfl) (fun K hK => ?_) ?_
      · go_simp
        refine hK.out _ _ ?_ (fun hHeld1 => ?_)
        · (try dsimp only)
          first | (go_simp; done) | (refine (World.cell?_of_block (Below.heap_setCell _ _ _ _ hGg)).trans ?_; first | exact c37 | (go_simp; done)) | exact c37
        clear hK K hHeld
        have hHeld := hHeld1; clear hHeld1
        try simp only [Act.put, List.setIfInBounds_toArray, List.set_cons_zero, List.set_cons_succ]
        refine wpAnyH_ready (rs := [9]) (by kernel_rfl) (by simp) ?_
        refine AllReadyH.cons (opAt rfl) (fun K hK => ?_) ?_
        · go_simp
          refine hK.out _ _ ?_ (fun hHeld1 => ?_)
          · (try dsimp only)
            first | (go_simp; done) | (refine (World.cell?_of_block (Below.heap_setCell _ _ _ _ hGg)).trans ?_; first | exact c37 | (go_simp; done)) | exact c37
          clear hK K hHeld
          have hHeld := hHeld1; clear hHeld1
          try simp only [Act.put, List.setIfInBounds_toArray, List.set_cons_zero, List.set_cons_succ]
          refine wpAnyH_ready (rs := [12]) (by kernel_rfl) (by simp) ?_
          refine AllReadyH.cons (opAt rfl) (fun K hK => ?_) ?_
          · have HXa := Lib.hid (HX8.out.drew.alloc (.cells #[.int .i64 0, .int .i64 0] 59))
            refine step_pushG fEnt (by rfl) (.tmp 82) (.tmp 84) (by rfl) Ent.enc Ent.enc_length w0 (lo := lo) [(⟨0, 0⟩ : Ent)] x.r (by rfl) (by rfl) (heap_alloc_at (by first | rfl | (simp; done))) (HXa.out.ox.g.sl.deep x (List.mem_of_getElem? htx.out)).2.1 HXa.out.rd.ext (by omega) (by first | omega | (simp; omega)) (by rfl) (by decide) (by rfl) (oneEs' _) (by simp; omega) (by simp; omega) ?_
            intro v7 z7 o7 g7 b7
            have HO7 := Lib.hid o7; have HG7 := Lib.hid g7
            obtain ⟨p7, n7, c7, hv7⟩ : ∃ p n c, v7 = Value.slice p n c := (by obtain ⟨p, c, hv, _, _⟩ := (o7.sl Ent.enc_length).openc; exact ⟨p, _, c, hv⟩)
            subst hv7
            have hxv := (HXa.out.ox.g.sl.deep x (List.mem_of_getElem? htx.out)).2.1
            have rG7 := (grown_at hxv g7 hlo (Array.getElem?_eq_some_iff.1 HXa.out.box).1).trans HXa.out.box
            have c37 : z7.val.cell? ⟨z3.val.heap.size, 3, none⟩ = some (.slice (some ⟨g, 0, none⟩) ts.length d3) := cell_of_row _ _ 3 _ _ _ rG7
            have HRW := HXa.out.ox.g.sl.row.keep g7 (HXa.out.ox.g.sl.out x (List.mem_of_getElem? htx.out) _ (by simp [TS.parts])).symm
            obtain ⟨hLg7, -, -, -, -, w4, -, -, -, -, -, wf4, -⟩ := HRW.cells6 htx.out
            clear o7 g7 b7 rG7 hxv HRW

            refine hK.out _ _ ?_ (fun hHeld1 => ?_)
            · (try dsimp only)
              first | (go_simp; done) | (refine (World.cell?_of_block (Below.heap_setCell _ _ _ _ hGg)).trans ?_; first | exact c37 | (go_simp; done)) | exact c37
            clear hK K hHeld
            have hHeld := hHeld1; clear hHeld1
            try simp only [Act.put, List.setIfInBounds_toArray, List.set_cons_zero, List.set_cons_succ]
            refine wpAnyH_take (i := 13) (v := ?_) (opAt rfl) (by kernel_rfl) (by kernel_rfl) (by kernel_rfl) (fun _ _ _ h => h) (Or.inl ⟨by rfl, ?_⟩) (by assumption) ?_
            rotate_left
            · (intro w hSw; (try dsimp only at hSw); go_simp) <;> with_reducible rfl
            try simp only [Act.put, List.setIfInBounds_toArray, List.set_cons_zero, List.set_cons_succ]
            refine wpAnyH_take (i := 14) (v := ?_) (opAt rfl) (by kernel_rfl) (by kernel_rfl) (by kernel_rfl) (fun _ _ _ h => h) (Or.inl ⟨by rfl, ?_⟩) (by assumption) ?_
            rotate_left
            · (intro w hSw; (try dsimp only at hSw); go_simp) <;> with_reducible rfl
            try simp only [Act.put, List.setIfInBounds_toArray, List.set_cons_zero, List.set_cons_succ]
            refine wpAnyH_take (i := 15) (v := ?_) (opAt rfl) (by kernel_rfl) (by kernel_rfl) (by kernel_rfl) (fun _ _ _ h => h) (Or.inl ⟨by rfl, ?_⟩) (by assumption) ?_
            rotate_left
            · (intro w hSw; (try dsimp only at hSw); go_simp) <;> with_reducible rfl
            try simp only [Act.put, List.setIfInBounds_toArray, List.set_cons_zero, List.set_cons_succ]
            refine wpAnyH_ready (rs := [16]) (by kernel_rfl) (by simp) ?_
            refine AllReadyH.cons (opAt rfl) (fun K hK => ?_) ?_
            · go_simp
              refine hK.out _ _ ?_ (fun hHeld1 => ?_)
              · (try dsimp only)
                first | (go_simp; done) | (refine (World.cell?_of_block (Below.heap_setCell _ _ _ _ hGg)).trans ?_; first | exact c37 | (go_simp; done)) | exact c37
              clear hK K hHeld
              have hHeld := hHeld1; clear hHeld1
              try simp only [Act.put, List.setIfInBounds_toArray, List.set_cons_zero, List.set_cons_succ]
              refine wpAnyH_done (by kernel_rfl) ?_ _
              rw [show k * 6 + 3 + 1 = k * 6 + 4 from rfl]
              have HY := Lib.hid (HXa.out.pushR htx.out z7.ext HG7.out HO7.out)
              clear g0 fg0 cB0 fB0 g1 fg1 cB1 fB1 g2 fg2 cB2 fB2 g3 fg3 cB3 fB3
              obtain ⟨zf, hzf⟩ := ExtR.of HY.out.gb
              rw [hzf] at HY ⊢
              clear hzf
              have hLGf : LtS z3.val.heap.size zf.val := ⟨(Array.getElem?_eq_some_iff.1 HY.out.box).1⟩
              have hLBf : LtS w.heap.size zf.val := ⟨(Array.getElem?_eq_some_iff.1 HY.out.res).1⟩
              have hNGf : NeS z3.val.heap.size rb := ⟨by omega⟩
              have g0 : zf.val.cell? ⟨z3.val.heap.size, 0, none⟩ = some (.slice q0 base.length d0) := cell_of_row _ _ 0 _ _ _ HY.out.box
              have g1 : zf.val.cell? ⟨z3.val.heap.size, 1, none⟩ = some (.slice q1 acts.length d1) := cell_of_row _ _ 1 _ _ _ HY.out.box
              have g2 : zf.val.cell? ⟨z3.val.heap.size, 2, none⟩ = some (.slice q2 vers.length d2) := cell_of_row _ _ 2 _ _ _ HY.out.box
              have g3 : zf.val.cell? ⟨z3.val.heap.size, 3, none⟩ = some (.slice (some ⟨g, 0, none⟩) ts.length d3) := cell_of_row _ _ 3 _ _ _ HY.out.box
              have fg0 := frozen_of_row _ _ 0 _ _ HY.out.box
              have fg1 := frozen_of_row _ _ 1 _ _ HY.out.box
              have fg2 := frozen_of_row _ _ 2 _ _ HY.out.box
              have fg3 := frozen_of_row _ _ 3 _ _ HY.out.box
              have cB0 : zf.val.cell? ⟨w.heap.size, 0, none⟩ = some (.slice none 0 0) := cell_of_row _ _ 0 _ _ _ HY.out.res
              have cB1 : zf.val.cell? ⟨w.heap.size, 1, none⟩ = some (.slice none 0 0) := cell_of_row _ _ 1 _ _ _ HY.out.res
              have cB2 : zf.val.cell? ⟨w.heap.size, 2, none⟩ = some (.slice none 0 0) := cell_of_row _ _ 2 _ _ _ HY.out.res
              have cB3 : zf.val.cell? ⟨w.heap.size, 3, none⟩ = some (.slice none 0 0) := cell_of_row _ _ 3 _ _ _ HY.out.res
              have fB0 := frozen_of_row _ _ 0 _ _ HY.out.res
              have fB1 := frozen_of_row _ _ 1 _ _ HY.out.res
              have fB2 := frozen_of_row _ _ 2 _ _ HY.out.res
              have fB3 := frozen_of_row _ _ 3 _ _ HY.out.res
              go_upto_region 15 with fail
              go_wp2_with fail
              refine bodyPost_ret (v := .agg #[.slice q0 base.length d0, .slice q1 acts.length d1, .slice q2 vers.length d2, .slice (some ⟨g, 0, none⟩) ts.length d3]) (by simp [results, Try.results12, go_sem, cB0, cB1, cB2, cB3]) rfl ?_
              obtain ⟨y1, y2, y3⟩ := HY.out.fin
              refine ⟨_, _, _, _, _, rfl, HY.out.vl, y1, y2.mono ?_, y3⟩
              omega
            exact AllReadyH.nil
          exact AllReadyH.nil
        exact AllReadyH.nil
      exact AllReadyH.nil
    · by_cases hd1 : d3 = 1
      · subst hd1
        go_upto_region 15 with fail
        have HY := Lib.hid (HX8.out.tail (m := 0) (d := 0) (o := 0) rfl (by omega) (by omega) (by omega) (.inr (by omega)))
        clear g0 fg0 cB0 fB0 g1 fg1 cB1 fB1 g2 fg2 cB2 fB2 g3 fg3 cB3 fB3
        obtain ⟨zf, hzf⟩ := ExtR.of HY.out.gb
        rw [hzf] at HY ⊢
        clear hzf
        have hLGf : LtS z3.val.heap.size zf.val := ⟨(Array.getElem?_eq_some_iff.1 HY.out.box).1⟩
        have hLBf : LtS w.heap.size zf.val := ⟨(Array.getElem?_eq_some_iff.1 HY.out.res).1⟩
        have hNGf : NeS z3.val.heap.size rb := ⟨by omega⟩
        have g0 : zf.val.cell? ⟨z3.val.heap.size, 0, none⟩ = some (.slice q0 base.length d0) := cell_of_row _ _ 0 _ _ _ HY.out.box
        have g1 : zf.val.cell? ⟨z3.val.heap.size, 1, none⟩ = some (.slice q1 acts.length d1) := cell_of_row _ _ 1 _ _ _ HY.out.box
        have g2 : zf.val.cell? ⟨z3.val.heap.size, 2, none⟩ = some (.slice q2 vers.length d2) := cell_of_row _ _ 2 _ _ _ HY.out.box
        have g3 : zf.val.cell? ⟨z3.val.heap.size, 3, none⟩ = some (.slice (some ⟨g, 0, none⟩) 0 0) := cell_of_row _ _ 3 _ _ _ HY.out.box
        have fg0 := frozen_of_row _ _ 0 _ _ HY.out.box
        have fg1 := frozen_of_row _ _ 1 _ _ HY.out.box
        have fg2 := frozen_of_row _ _ 2 _ _ HY.out.box
        have fg3 := frozen_of_row _ _ 3 _ _ HY.out.box
        have cB0 : zf.val.cell? ⟨w.heap.size, 0, none⟩ = some (.slice none 0 0) := cell_of_row _ _ 0 _ _ _ HY.out.res
        have cB1 : zf.val.cell? ⟨w.heap.size, 1, none⟩ = some (.slice none 0 0) := cell_of_row _ _ 1 _ _ _ HY.out.res
        have cB2 : zf.val.cell? ⟨w.heap.size, 2, none⟩ = some (.slice none 0 0) := cell_of_row _ _ 2 _ _ _ HY.out.res
        have cB3 : zf.val.cell? ⟨w.heap.size, 3, none⟩ = some (.slice none 0 0) := cell_of_row _ _ 3 _ _ _ HY.out.res
        have fB0 := frozen_of_row _ _ 0 _ _ HY.out.res
        have fB1 := frozen_of_row _ _ 1 _ _ HY.out.res
        have fB2 := frozen_of_row _ _ 2 _ _ HY.out.res
        have fB3 := frozen_of_row _ _ 3 _ _ HY.out.res
        go_upto_region 15 with fail
        go_wp2_with fail
        refine bodyPost_ret (v := .agg #[.slice q0 base.length d0, .slice q1 acts.length d1, .slice q2 vers.length d2, .slice (some ⟨g, 0, none⟩) 0 0]) (by simp [results, Try.results12, go_sem, cB0, cB1, cB2, cB3]) rfl ?_
        obtain ⟨y1, y2, y3⟩ := HY.out.fin
        refine ⟨_, _, _, _, _, rfl, HY.out.vl, y1, y2.mono ?_, y3⟩
        omega
      · go_upto_region 15 with fail
        have HY := Lib.hid (HX8.out.tail (m := ts.length - 1) (d := d3 - 1) (o := 6) rfl (by omega) rfl (by omega) (.inl rfl))
        clear g0 fg0 cB0 fB0 g1 fg1 cB1 fB1 g2 fg2 cB2 fB2 g3 fg3 cB3 fB3
        obtain ⟨zf, hzf⟩ := ExtR.of HY.out.gb
        rw [hzf] at HY ⊢
        clear hzf
        have hLGf : LtS z3.val.heap.size zf.val := ⟨(Array.getElem?_eq_some_iff.1 HY.out.box).1⟩
        have hLBf : LtS w.heap.size zf.val := ⟨(Array.getElem?_eq_some_iff.1 HY.out.res).1⟩
        have hNGf : NeS z3.val.heap.size rb := ⟨by omega⟩
        have g0 : zf.val.cell? ⟨z3.val.heap.size, 0, none⟩ = some (.slice q0 base.length d0) := cell_of_row _ _ 0 _ _ _ HY.out.box
        have g1 : zf.val.cell? ⟨z3.val.heap.size, 1, none⟩ = some (.slice q1 acts.length d1) := cell_of_row _ _ 1 _ _ _ HY.out.box
        have g2 : zf.val.cell? ⟨z3.val.heap.size, 2, none⟩ = some (.slice q2 vers.length d2) := cell_of_row _ _ 2 _ _ _ HY.out.box
        have g3 : zf.val.cell? ⟨z3.val.heap.size, 3, none⟩ = some (.slice (some ⟨g, 6, none⟩) (ts.length - 1) (d3 - 1)) := cell_of_row _ _ 3 _ _ _ HY.out.box
        have fg0 := frozen_of_row _ _ 0 _ _ HY.out.box
        have fg1 := frozen_of_row _ _ 1 _ _ HY.out.box
        have fg2 := frozen_of_row _ _ 2 _ _ HY.out.box
        have fg3 := frozen_of_row _ _ 3 _ _ HY.out.box
        have cB0 : zf.val.cell? ⟨w.heap.size, 0, none⟩ = some (.slice none 0 0) := cell_of_row _ _ 0 _ _ _ HY.out.res
        have cB1 : zf.val.cell? ⟨w.heap.size, 1, none⟩ = some (.slice none 0 0) := cell_of_row _ _ 1 _ _ _ HY.out.res
        have cB2 : zf.val.cell? ⟨w.heap.size, 2, none⟩ = some (.slice none 0 0) := cell_of_row _ _ 2 _ _ _ HY.out.res
        have cB3 : zf.val.cell? ⟨w.heap.size, 3, none⟩ = some (.slice none 0 0) := cell_of_row _ _ 3 _ _ _ HY.out.res
        have fB0 := frozen_of_row _ _ 0 _ _ HY.out.res
        have fB1 := frozen_of_row _ _ 1 _ _ HY.out.res
        have fB2 := frozen_of_row _ _ 2 _ _ HY.out.res
        have fB3 := frozen_of_row _ _ 3 _ _ HY.out.res
        go_upto_region 15 with fail
        go_wp2_with fail
        refine bodyPost_ret (v := .agg #[.slice q0 base.length d0, .slice q1 acts.length d1, .slice q2 vers.length d2, .slice (some ⟨g, 6, none⟩) (ts.length - 1) (d3 - 1)]) (by simp [results, Try.results12, go_sem, cB0, cB1, cB2, cB3]) rfl ?_
        obtain ⟨y1, y2, y3⟩ := HY.out.fin
        refine ⟨_, _, _, _, _, rfl, HY.out.vl, y1, y2.mono ?_, y3⟩
        omega
end Go.Proofs.Ytnknamddonjnjaa
