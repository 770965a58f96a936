/- Walks: the layers of a tree, the program's side (printed by wip/mklyp.py). -/
import Derived.Test.YteiemjebdhmnaaaGreatGLxTop28
import Derived.Test.YteiemjebdhmnaaaGreatGLxTop29
set_option linter.unusedSimpArgs false
set_option linter.unusedVariables false
namespace Go.Proofs.YteiemjebdhmnaaaGreat
open Go Go.RowKit Go.Proofs

theorem OE.keptLow {eT eE lo : Nat} {w w' : World} {v : Value} {ts : List TE} {g : Nat} (h : OE eT eE lo w v ts) (hg : w.grownBy w' (some g)) (hr : g < lo) : OE eT eE lo w' v ts := by
  have ap : ∀ {α : Type} {enc : α → List Value} {e sz : Nat} {u : Value} {l : List α}, Own enc e sz lo w u l → u.ownBlock = none ∨ u.ownBlock ≠ some g := by
    intro α enc e sz u l ho
    cases hu : u.ownBlock with
    | none => exact .inl rfl
    | some k =>
      right; intro e'
      have h1 := (World.ownsRow.lt ho k hu).1
      simp only [Option.some.injEq] at e'
      omega
  exact ⟨Own.kept h.1 hg (ap h.1), fun x hx => ⟨⟨Own.kept (h.2 x hx).1.1 hg (ap (h.2 x hx).1.1), (h.2 x hx).1.2⟩, ⟨Own.kept (h.2 x hx).2.1 hg (ap (h.2 x hx).2.1), (h.2 x hx).2.2⟩⟩⟩
/-- What stands behind the run of a block. -/
def RunR (W0 : World) (E : List Int × List Eff) (s6 s7 : Value) (W1 : World) : Prop := ∃ (G : Nat) (ts : List TE), s6 = .pointer (some ⟨G, 0, none⟩) ∧ Ext W0 W1 ∧ W0.heap.size ≤ G ∧ Row 56 W1 G E.1 ∧ OE 62 64 W0.heap.size W1 s7 ts ∧ ts.map TE.core = E.2
theorem mask_or {K : List Int} (hK : ∀ n ∈ K, 0 ≤ n ∧ n ≤ 31) {x : Int} (h0 : 0 ≤ x) (h1 : x ≤ 31) : bits BinOp.or IntKind.i64 (maskN K) (wrap64 (2 ^ x.toNat)) = (maskN (K ++ [x]) : Int) := by
  have hm := maskN_lt K hK
  have hp0 : ∀ m : Nat, m ≤ 2147483648 → wrap64 (m : Int) = m := fun m hm => IntWalk.wrap64_in _ ⟨by omega, by omega⟩
  have hp : wrap64 (2 ^ x.toNat) = ((2 ^ x.toNat : Nat) : Int) := by
    rw [← hp0 _ (Nat.pow_le_pow_right (n := 2) (by decide) (show x.toNat ≤ 31 by omega))]; simp
  have hq : 2 ^ x.toNat < 9223372036854775808 := Nat.lt_of_le_of_lt (Nat.pow_le_pow_right (n := 2) (by decide) (show x.toNat ≤ 31 by omega)) (by decide)
  have hor := i64_or_nat (maskN K) (2 ^ x.toNat) (by omega) hq
  rw [← hp] at hor
  rw [hor, maskN_snoc]
theorem mask_and {M i : Nat} (hM : M < 4294967296) : (bits BinOp.and IntKind.i64 ((M : Int) / 2 ^ i) 1 == 1) = M.testBit i := by
  have h1 : ((M : Int) / 2 ^ i) = ((M / 2 ^ i : Nat) : Int) := by push_cast; rfl
  have h2 : M / 2 ^ i ≤ M := Nat.div_le_self _ _
  have h3 := i64_and_nat (M / 2 ^ i) 1 (by omega) (by decide)
  rw [h1, show (1 : Int) = ((1 : Nat) : Int) from rfl, h3, Nat.testBit_eq_decide_div_mod_eq, Nat.and_one_is_mod]
  rw [Bool.eq_iff_iff, beq_iff_eq, decide_eq_true_eq]
  omega
theorem keys_mid {es : List Eff} (hes : ∀ e ∈ es, entsOk 0 e.w = true) {j : Nat} {x : Eff} (hx : es[j]? = some x) (i : Nat) : ∀ n ∈ (allW (es.take j) ++ x.w.take i).map (·.k), 0 ≤ n ∧ n ≤ 31 := by
  intro n hn
  obtain ⟨e, he, rfl⟩ := List.mem_map.1 hn
  rcases List.mem_append.1 he with he | he
  · have := allW_in (es := es.take j) (fun y hy => hes y (List.mem_of_mem_take hy)) e he
    exact ⟨this.1, this.2.1⟩
  · have := entsOk_mem (hes x (List.mem_of_getElem? hx)) (List.mem_of_mem_take he)
    exact ⟨this.1, this.2.1⟩
set_option maxRecDepth 100000 in
set_option maxHeartbeats 4000000 in
theorem iBranchLayers_any (t : Tree) (v0 v1 v2 : Value) (w : World) (h : ST w v0 v1 v2 t) :
    Calls Tryz.prog 6 #[.agg #[v0, v1, v2]] w fun e w' => ∃ v' ts, e = .returned v' ∧ Up w w' ∧ OY 66 64 w.heap.size w' v' ts ∧ PWY ts ∧ ts.map TL.core = lyrsR t := by
  obtain ⟨p0, c0, rfl, _, _⟩ := h.base.openc
  obtain ⟨p1, c1, rfl, hl1, _, hc1⟩ := h.bs.open
  obtain ⟨p2, c2, rfl, hlp, hcp⟩ := h.pr.open
  have H := Lib.hid h
  have kv := fun w h => iTreeValid_any t (.slice p0 t.base.length c0) (.slice p1 t.bs.length c1) (.slice p2 t.pr.length c2) w h
  have Hc1 := Lib.hid hc1; have Hcp := Lib.hid hcp
  clear h hc1 hcp
  unfold lyrsR
  rcases hok : t.ok with _ | _
  · simp only [hok] at kv
    clear hok
    rw [if_neg (by decide)]
    go_enter Tryz.func6, Tryz.ntmps6
    go_wp2_with ((go_at_call 24; refine (kv _ (H.out.up (by repeat (first | (with_reducible exact Ext.refl _) | (with_reducible refine Ext.up ?_ _) | (with_reducible refine Ext.alloc ?_ _) | (with_reducible refine Ext.drew ?_) | (with_reducible refine Ext.setRow ?_ (by first | exact LeS.le | exact LeS.add _ | (simp; done) | (simp; omega)) _) | (with_reducible refine Ext.setCell ?_ (by first | exact LeS.le | exact LeS.add _ | (simp; done) | (simp; omega)) _))))).mono ?_; rintro e w' ⟨rfl, z1, rfl⟩))
    go_ret
    exact ⟨_, [], rfl, (.of (by repeat (first | (with_reducible exact Ext.refl _) | (with_reducible refine Ext.up ?_ _) | (with_reducible refine Ext.alloc ?_ _) | (with_reducible refine Ext.drew ?_) | (with_reducible refine Ext.setRow ?_ (by first | exact LeS.le | exact LeS.add _ | (simp; done) | (simp; omega)) _) | (with_reducible refine Ext.setCell ?_ (by first | exact LeS.le | exact LeS.add _ | (simp; done) | (simp; omega)) _)))), OY.nil _ _ _ _, PWY.nil, rfl⟩
  rw [if_pos rfl]
  simp only [hok] at kv
  have Hok := Lib.hid hok
  have hb14 := (Tree.lens hok).2.2
  have Hpl := Lib.hid (Tree.lens hok).1
  clear hok
  go_enter Tryz.func6, Tryz.ntmps6
  go_wp2_with ((go_at_call 24; refine (kv _ (H.out.up (by repeat (first | (with_reducible exact Ext.refl _) | (with_reducible refine Ext.up ?_ _) | (with_reducible refine Ext.alloc ?_ _) | (with_reducible refine Ext.drew ?_) | (with_reducible refine Ext.setRow ?_ (by first | exact LeS.le | exact LeS.add _ | (simp; done) | (simp; omega)) _) | (with_reducible refine Ext.setCell ?_ (by first | exact LeS.le | exact LeS.add _ | (simp; done) | (simp; omega)) _))))).mono ?_; rintro e w' ⟨rfl, z1, rfl⟩))
  go_loopw [3, 22] (fun s3 s22 wr => ∃ (k : Nat) (ts : List TL), s22 = .int .i64 k ∧ k ≤ t.bs.length ∧ Up z1.val wr ∧ OY 66 64 z1.val.heap.size wr s3 ts ∧ PWY ts ∧ ts.map TL.core = lyrsTo t k) (fun _ s22 _ => t.bs.length - (intOf s22).toNat)
  case atStart => exact ⟨0, [], rfl, Nat.zero_le _, (.of (by repeat (first | (with_reducible exact Ext.refl _) | (with_reducible refine Ext.up ?_ _) | (with_reducible refine Ext.alloc ?_ _) | (with_reducible refine Ext.drew ?_) | (with_reducible refine Ext.setRow ?_ (by first | exact LeS.le | exact LeS.add _ | (simp; done) | (simp; omega)) _) | (with_reducible refine Ext.setCell ?_ (by first | exact LeS.le | exact LeS.add _ | (simp; done) | (simp; omega)) _)))), OY.nil _ _ _ _, PWY.nil, rfl⟩
  case round =>
    obtain ⟨k, ts, rfl, hk, ⟨z, rfl⟩, hoy, hpw, hts⟩ := hrel
    have Htl := Lib.hid (show ts.length = k by rw [← List.length_map (f := TL.core), hts, lyrsTo_len])
    by_cases hlt : k < t.bs.length
    · obtain ⟨y, hyk⟩ := getElem?_some_of_lt hlt
      obtain ⟨b, off, q, d, rfl, hb, f0, f1, f2, f3, f4, f5, hx⟩ := Hc1.out k y hyk
      obtain ⟨P, hP⟩ := getElem?_some_of_lt (l := t.pr) (k := k) (by have := Hpl.out; omega)
      obtain ⟨b2, off2, rfl, hb2, hcc2⟩ := Hcp.out k _ hP
      have e0 : w.cell? ⟨b2, off2 + k, none⟩ = some (.int .i64 P) := by have := hcc2 0 _ rfl; simpa using this
      have hpa : prAt t k = P := getD_of hP
      have ka := fun w h => ahead_any t (.slice p0 t.base.length c0) (.slice (some ⟨b, off, none⟩) t.bs.length c1) (.slice (some ⟨b2, off2, none⟩) t.pr.length c2) k w h Hok.out hlt
      have hfl := frontV_len t k
      have hfi := frontV_in Hok.out k
      have hya := acts_ok Hok.out hyk
      have hyl := actsOk_len hya
      have kr := fun w h => runAll_any (frontV t k) y.2 (.slice q y.2.length d) w h hfl hfi (acts_mem hya) (by omega)
      have hel := runAll_len (frontV t k) y.2
      have hes := runAll_effs hfi (acts_mem hya)
      have hvl : (runAll (frontV t k) y.2).1.length = 32 := runStep_len hfl
      have hlo := lyrOf_eq hyk
      rw [hpa, lyr_wr Hok.out hyk] at hlo
      have hts2 : ∀ u, (ts ++ [(⟨P, u, wrTo ((allW (runAll (frontV t k) y.2).2).map (·.k)) (runAll (frontV t k) y.2).1 32⟩ : TL)]).map TL.core = lyrsTo t (k + 1) := fun u => by rw [lyrsTo, hlo, List.map_append, hts]; rfl
      generalize hE : runAll (frontV t k) y.2 = E at *
      generalize frontV t k = FV at *
      have Hx := Lib.hid hx; have HOY := Lib.hid hoy; have HT2 := Lib.hid hts2; have HES := Lib.hid hes; have HPW := Lib.hid hpw
      have Hvl := Lib.hid hvl
      have k0 : (0 : Int) ≤ (k : Int) := by omega
      have k1 : (k : Int) < t.pr.length := by have := Hpl.out; omega
      have k2 : (k : Int) < t.bs.length := by omega
      have hE10 : E.2.length ≤ 10 := by omega
      obtain ⟨p3, c3, rfl, _, _⟩ := (hoy.1.sl TL.enc_length).openc
      clear hx hoy hpw hts hts2 hes hel hya hyl hlo hE hyk hP hpa hcc2 hfi hfl hvl
      go_upto_region 7 with fail
      go_cut [6, 7] (fun s6 s7 wr => RunR (z.val.alloc (.cells #[.int .i64 y.1.bf, .int .i64 y.1.ht, .int .i64 y.1.vw, .slice q y.2.length d, .int .i64 y.1.rt, .int .i64 y.1.ef] 54)) E s6 s7 wr)
      case first =>
        refine wp_region_held_drew (S := (fun w' => (∀ n i, ∀ [LtS n (z.val.alloc (.cells #[.int .i64 y.1.bf, .int .i64 y.1.ht, .int .i64 y.1.vw, .slice q y.2.length d, .int .i64 y.1.rt, .int .i64 y.1.ef] 54))], w'.cell? ⟨n, i, none⟩ = World.cell? (z.val.alloc (.cells #[.int .i64 y.1.bf, .int .i64 y.1.ht, .int .i64 y.1.vw, .slice q y.2.length d, .int .i64 y.1.rt, .int .i64 y.1.ef] 54)) ⟨n, i, none⟩) ∧ Ext (z.val.alloc (.cells #[.int .i64 y.1.bf, .int .i64 y.1.ht, .int .i64 y.1.vw, .slice q y.2.length d, .int .i64 y.1.rt, .int .i64 y.1.ef] 54)) w')) (by kernel_rfl) ?_ (fun hHeld => ?_)
        · (try dsimp only)
          refine S_of_ext ?_
          exact (by repeat (first | (with_reducible exact Ext.refl _) | (with_reducible refine Ext.up ?_ _) | (with_reducible refine Ext.alloc ?_ _) | (with_reducible refine Ext.drew ?_) | (with_reducible refine Ext.setRow ?_ (by first | exact LeS.le | exact LeS.add _ | (simp; done) | (simp; omega)) _) | (with_reducible refine Ext.setCell ?_ (by first | exact LeS.le | exact LeS.add _ | (simp; done) | (simp; omega)) _)))
        refine wpAnyH_take (i := 0) (v := ?_) (opAt rfl) (by kernel_rfl) (by kernel_rfl) (by kernel_rfl) (fun _ _ _ h => h) (Or.inl ⟨by rfl, ?_⟩) (by assumption) ?_
        rotate_left
        · (intro w hSw; (try dsimp only at hSw); go_simp) <;> with_reducible rfl
        try simp only [Act.put, List.setIfInBounds_toArray, List.set_cons_zero, List.set_cons_succ]
        refine wpAnyH_take (i := 1) (v := ?_) (opAt rfl) (by kernel_rfl) (by kernel_rfl) (by kernel_rfl) (fun _ _ _ h => h) (Or.inl ⟨by rfl, ?_⟩) (by assumption) ?_
        rotate_left
        · (intro w hSw; (try dsimp only at hSw); go_simp) <;> with_reducible rfl
        try simp only [Act.put, List.setIfInBounds_toArray, List.set_cons_zero, List.set_cons_succ]
        refine wpAnyH_take (i := 3) (v := ?_) (opAt rfl) (by kernel_rfl) (by kernel_rfl) (by kernel_rfl) (fun _ _ _ h => h) (Or.inl ⟨by rfl, ?_⟩) (by assumption) ?_
        rotate_left
        · (intro w hSw; (try dsimp only at hSw); go_simp) <;> with_reducible rfl
        try simp only [Act.put, List.setIfInBounds_toArray, List.set_cons_zero, List.set_cons_succ]
        refine wpAnyH_take (i := 4) (v := ?_) (opAt rfl) (by kernel_rfl) (by kernel_rfl) (by kernel_rfl) (fun _ _ _ h => h) (Or.inl ⟨by rfl, ?_⟩) (by assumption) ?_
        rotate_left
        · (intro w hSw; (try dsimp only at hSw); go_simp) <;> with_reducible rfl
        try simp only [Act.put, List.setIfInBounds_toArray, List.set_cons_zero, List.set_cons_succ]
        refine wpAnyH_ready (rs := [2, 9]) (by kernel_rfl) (by simp) ?_
        refine AllReadyH.cons (opAt rfl) (fun K hK => ?_) ?_
        · go_simp
          (go_at_call 26; (with_reducible refine (ka _ (H.out.up (by repeat (first | (with_reducible exact Ext.refl _) | (with_reducible refine Ext.up ?_ _) | (with_reducible refine Ext.alloc ?_ _) | (with_reducible refine Ext.drew ?_) | (with_reducible refine Ext.setRow ?_ (by first | exact LeS.le | exact LeS.add _ | (simp; done) | (simp; omega)) _) | (with_reducible refine Ext.setCell ?_ (by first | exact LeS.le | exact LeS.add _ | (simp; done) | (simp; omega)) _))))).mono ?_); rintro e w' ⟨rfl, ⟨za, rfl⟩⟩)
          try go_wp2_with fail
          refine hK.out _ _ ?_ (fun hHeld1 => ?_)
          · (try dsimp only)
            refine S_of_ext ?_
            exact (by repeat (first | (with_reducible exact Ext.refl _) | (with_reducible refine Ext.up ?_ _) | (with_reducible refine Ext.alloc ?_ _) | (with_reducible refine Ext.drew ?_) | (with_reducible refine Ext.setRow ?_ (by first | exact LeS.le | exact LeS.add _ | (simp; done) | (simp; omega)) _) | (with_reducible refine Ext.setCell ?_ (by first | exact LeS.le | exact LeS.add _ | (simp; done) | (simp; omega)) _)))
          clear hK K hHeld
          have hHeld := hHeld1; clear hHeld1
          try simp only [Act.put, List.setIfInBounds_toArray, List.set_cons_zero, List.set_cons_succ]
          refine wpAnyH_ready (rs := [5, 9]) (by kernel_rfl) (by simp) ?_
          refine AllReadyH.cons (opAt rfl) (fun K hK => ?_) ?_
          · go_simp
            (go_at_call 25; (with_reducible refine (kr _ (Hx.out.up (by repeat (first | (with_reducible exact Ext.refl _) | (with_reducible refine Ext.up ?_ _) | (with_reducible refine Ext.alloc ?_ _) | (with_reducible refine Ext.drew ?_) | (with_reducible refine Ext.setRow ?_ (by first | exact LeS.le | exact LeS.add _ | (simp; done) | (simp; omega)) _) | (with_reducible refine Ext.setCell ?_ (by first | exact LeS.le | exact LeS.add _ | (simp; done) | (simp; omega)) _))))).mono ?_); rintro e w' ⟨v7, tsE, rfl, ⟨zr, rfl⟩, oE, hE2⟩)
            try go_wp2_with fail
            refine hK.out _ _ ?_ (fun hHeld1 => ?_)
            · (try dsimp only)
              refine S_of_ext ?_
              exact (by repeat (first | (with_reducible exact Ext.refl _) | (with_reducible refine Ext.up ?_ _) | (with_reducible refine Ext.alloc ?_ _) | (with_reducible refine Ext.drew ?_) | (with_reducible refine Ext.setRow ?_ (by first | exact LeS.le | exact LeS.add _ | (simp; done) | (simp; omega)) _) | (with_reducible refine Ext.setCell ?_ (by first | exact LeS.le | exact LeS.add _ | (simp; done) | (simp; omega)) _)))
            clear hK K hHeld
            have hHeld := hHeld1; clear hHeld1
            try simp only [Act.put, List.setIfInBounds_toArray, List.set_cons_zero, List.set_cons_succ]
            refine wpAnyH_take (i := 6) (v := ?_) (opAt rfl) (by kernel_rfl) (by kernel_rfl) (by kernel_rfl) (fun _ _ _ h => h) (Or.inl ⟨by rfl, ?_⟩) (by assumption) ?_
            rotate_left
            · (intro w hSw; (try dsimp only at hSw); go_simp) <;> with_reducible rfl
            try simp only [Act.put, List.setIfInBounds_toArray, List.set_cons_zero, List.set_cons_succ]
            refine wpAnyH_take (i := 7) (v := ?_) (opAt rfl) (by kernel_rfl) (by kernel_rfl) (by kernel_rfl) (fun _ _ _ h => h) (Or.inl ⟨by rfl, ?_⟩) (by assumption) ?_
            rotate_left
            · (intro w hSw; (try dsimp only at hSw); go_simp) <;> with_reducible rfl
            try simp only [Act.put, List.setIfInBounds_toArray, List.set_cons_zero, List.set_cons_succ]
            refine wpAnyH_take (i := 8) (v := ?_) (opAt rfl) (by kernel_rfl) (by kernel_rfl) (by kernel_rfl) (fun _ _ _ h => h) (Or.inl ⟨by rfl, ?_⟩) (by assumption) ?_
            rotate_left
            · (intro w hSw; (try dsimp only at hSw); go_simp) <;> with_reducible rfl
            try simp only [Act.put, List.setIfInBounds_toArray, List.set_cons_zero, List.set_cons_succ]
            refine wpAnyH_ready (rs := [9]) (by kernel_rfl) (by simp) ?_
            refine AllReadyH.cons (opAt rfl) (fun K hK => ?_) ?_
            · go_simp
              refine hK.out _ _ ?_ (fun hHeld1 => ?_)
              · (try dsimp only)
                refine S_of_ext ?_
                exact (by repeat (first | (with_reducible exact Ext.refl _) | (with_reducible refine Ext.up ?_ _) | (with_reducible refine Ext.alloc ?_ _) | (with_reducible refine Ext.drew ?_) | (with_reducible refine Ext.setRow ?_ (by first | exact LeS.le | exact LeS.add _ | (simp; done) | (simp; omega)) _) | (with_reducible refine Ext.setCell ?_ (by first | exact LeS.le | exact LeS.add _ | (simp; done) | (simp; omega)) _)))
              clear hK K hHeld
              have hHeld := hHeld1; clear hHeld1
              try simp only [Act.put, List.setIfInBounds_toArray, List.set_cons_zero, List.set_cons_succ]
              refine wpAnyH_ready (rs := [10]) (by kernel_rfl) (by simp) ?_
              refine AllReadyH.cons (opAt rfl) (fun K hK => ?_) ?_
              · rw [if_pos (by rfl)]
                refine wp_store_row _ _ _ rfl _ _ rfl rfl _ _ (show Row 56 _ _ zeros from (by repeat (first | (with_reducible exact Row.of_eq (heap_alloc_new _ _) vA_zeros.symm) | (exact Row.of_eq (heap_alloc_at (by simp)) vA_zeros.symm) | (with_reducible refine Row.up ?_ (Extd.ext _)) | (with_reducible refine Row.alloc ?_ _) | (with_reducible refine Row.drew ?_)))).eq (by rw [vA_size, Hvl.out]; exact Tryz.sVals) (by rw [vA_size, vA_size, Hvl.out]; rfl) (vA_one _) ?_
                refine hK.out _ _ ?_ (fun hHeld1 => ?_)
                · (try dsimp only)
                  refine S_of_ext ?_
                  exact (by repeat (first | (with_reducible exact Ext.refl _) | (with_reducible refine Ext.up ?_ _) | (with_reducible refine Ext.alloc ?_ _) | (with_reducible refine Ext.drew ?_) | (with_reducible refine Ext.setRow ?_ (by first | exact LeS.le | exact LeS.add _ | (simp; done) | (simp; omega)) _) | (with_reducible refine Ext.setCell ?_ (by first | exact LeS.le | exact LeS.add _ | (simp; done) | (simp; omega)) _)))
                clear hK K hHeld
                have hHeld := hHeld1; clear hHeld1
                try simp only [Act.put, List.setIfInBounds_toArray, List.set_cons_zero, List.set_cons_succ]
                refine wpAnyH_take (i := 11) (v := ?_) (opAt rfl) (by kernel_rfl) (by kernel_rfl) (by kernel_rfl) (fun _ _ _ h => h) (Or.inl ⟨by rfl, ?_⟩) (by assumption) ?_
                rotate_left
                · (intro w hSw; (try dsimp only at hSw); go_simp) <;> with_reducible rfl
                try simp only [Act.put, List.setIfInBounds_toArray, List.set_cons_zero, List.set_cons_succ]
                refine wpAnyH_done (by kernel_rfl) ?_ _
                go_wp2_with fail
                go_meet
                have hza := za.ext.size
                have hzr := zr.ext.size
                simp at hza hzr
                refine ⟨_, tsE, rfl, (by repeat (first | (with_reducible exact Ext.refl _) | (with_reducible refine Ext.up ?_ _) | (with_reducible refine Ext.alloc ?_ _) | (with_reducible refine Ext.drew ?_) | (with_reducible refine Ext.setRow ?_ (by first | exact LeS.le | exact LeS.add _ | (simp; done) | (simp; omega)) _) | (with_reducible refine Ext.setCell ?_ (by first | exact LeS.le | exact LeS.add _ | (simp; done) | (simp; omega)) _))), ?_, Row.setRow (show Row 56 _ _ zeros from (by repeat (first | (with_reducible exact Row.of_eq (heap_alloc_new _ _) vA_zeros.symm) | (exact Row.of_eq (heap_alloc_at (by simp)) vA_zeros.symm) | (with_reducible refine Row.up ?_ (Extd.ext _)) | (with_reducible refine Row.alloc ?_ _) | (with_reducible refine Row.drew ?_)))) _, ?_, hE2⟩
                · first | exact LeS.le | (simp; done) | (simp; omega)
                · refine OE.lo (lo := za.val.heap.size) ?_ (by first | exact LeS.le | (simp; omega))
                  first
                  | (refine OE.lo (OE.keptLow oE (grownBy_setRow _ _ _) ?_) ?_; (first | exact LtS.lt | (simp; done) | (simp; omega)); (first | exact LeS.le | (simp; omega)))
                  | exact (oE.up (by repeat (first | (with_reducible exact Ext.refl _) | (with_reducible refine Ext.up ?_ _) | (with_reducible refine Ext.alloc ?_ _) | (with_reducible refine Ext.drew ?_) | (with_reducible refine Ext.setRow ?_ (by first | exact LeS.le | exact LeS.add _ | (simp; done) | (simp; omega)) _) | (with_reducible refine Ext.setCell ?_ (by first | exact LeS.le | exact LeS.add _ | (simp; done) | (simp; omega)) _)))).lo (by first | exact LeS.le | (simp; omega))
              exact AllReadyH.nil
            exact AllReadyH.nil
          refine AllReadyH.cons (opAt rfl) (fun K hK => ?_) ?_
          · go_simp
            refine hK.out _ _ ?_ (fun hHeld1 => ?_)
            · (try dsimp only)
              refine S_of_ext ?_
              exact (by repeat (first | (with_reducible exact Ext.refl _) | (with_reducible refine Ext.up ?_ _) | (with_reducible refine Ext.alloc ?_ _) | (with_reducible refine Ext.drew ?_) | (with_reducible refine Ext.setRow ?_ (by first | exact LeS.le | exact LeS.add _ | (simp; done) | (simp; omega)) _) | (with_reducible refine Ext.setCell ?_ (by first | exact LeS.le | exact LeS.add _ | (simp; done) | (simp; omega)) _)))
            clear hK K hHeld
            have hHeld := hHeld1; clear hHeld1
            try simp only [Act.put, List.setIfInBounds_toArray, List.set_cons_zero, List.set_cons_succ]
            refine wpAnyH_ready (rs := [5]) (by kernel_rfl) (by simp) ?_
            refine AllReadyH.cons (opAt rfl) (fun K hK => ?_) ?_
            · go_simp
              (go_at_call 25; (with_reducible refine (kr _ (Hx.out.up (by repeat (first | (with_reducible exact Ext.refl _) | (with_reducible refine Ext.up ?_ _) | (with_reducible refine Ext.alloc ?_ _) | (with_reducible refine Ext.drew ?_) | (with_reducible refine Ext.setRow ?_ (by first | exact LeS.le | exact LeS.add _ | (simp; done) | (simp; omega)) _) | (with_reducible refine Ext.setCell ?_ (by first | exact LeS.le | exact LeS.add _ | (simp; done) | (simp; omega)) _))))).mono ?_); rintro e w' ⟨v7, tsE, rfl, ⟨zr, rfl⟩, oE, hE2⟩)
              try go_wp2_with fail
              refine hK.out _ _ ?_ (fun hHeld1 => ?_)
              · (try dsimp only)
                refine S_of_ext ?_
                exact (by repeat (first | (with_reducible exact Ext.refl _) | (with_reducible refine Ext.up ?_ _) | (with_reducible refine Ext.alloc ?_ _) | (with_reducible refine Ext.drew ?_) | (with_reducible refine Ext.setRow ?_ (by first | exact LeS.le | exact LeS.add _ | (simp; done) | (simp; omega)) _) | (with_reducible refine Ext.setCell ?_ (by first | exact LeS.le | exact LeS.add _ | (simp; done) | (simp; omega)) _)))
              clear hK K hHeld
              have hHeld := hHeld1; clear hHeld1
              try simp only [Act.put, List.setIfInBounds_toArray, List.set_cons_zero, List.set_cons_succ]
              refine wpAnyH_take (i := 6) (v := ?_) (opAt rfl) (by kernel_rfl) (by kernel_rfl) (by kernel_rfl) (fun _ _ _ h => h) (Or.inl ⟨by rfl, ?_⟩) (by assumption) ?_
              rotate_left
              · (intro w hSw; (try dsimp only at hSw); go_simp) <;> with_reducible rfl
              try simp only [Act.put, List.setIfInBounds_toArray, List.set_cons_zero, List.set_cons_succ]
              refine wpAnyH_take (i := 7) (v := ?_) (opAt rfl) (by kernel_rfl) (by kernel_rfl) (by kernel_rfl) (fun _ _ _ h => h) (Or.inl ⟨by rfl, ?_⟩) (by assumption) ?_
              rotate_left
              · (intro w hSw; (try dsimp only at hSw); go_simp) <;> with_reducible rfl
              try simp only [Act.put, List.setIfInBounds_toArray, List.set_cons_zero, List.set_cons_succ]
              refine wpAnyH_take (i := 8) (v := ?_) (opAt rfl) (by kernel_rfl) (by kernel_rfl) (by kernel_rfl) (fun _ _ _ h => h) (Or.inl ⟨by rfl, ?_⟩) (by assumption) ?_
              rotate_left
              · (intro w hSw; (try dsimp only at hSw); go_simp) <;> with_reducible rfl
              try simp only [Act.put, List.setIfInBounds_toArray, List.set_cons_zero, List.set_cons_succ]
              refine wpAnyH_ready (rs := [10]) (by kernel_rfl) (by simp) ?_
              refine AllReadyH.cons (opAt rfl) (fun K hK => ?_) ?_
              · rw [if_pos (by rfl)]
                refine wp_store_row _ _ _ rfl _ _ rfl rfl _ _ (show Row 56 _ _ zeros from (by repeat (first | (with_reducible exact Row.of_eq (heap_alloc_new _ _) vA_zeros.symm) | (exact Row.of_eq (heap_alloc_at (by simp)) vA_zeros.symm) | (with_reducible refine Row.up ?_ (Extd.ext _)) | (with_reducible refine Row.alloc ?_ _) | (with_reducible refine Row.drew ?_)))).eq (by rw [vA_size, Hvl.out]; exact Tryz.sVals) (by rw [vA_size, vA_size, Hvl.out]; rfl) (vA_one _) ?_
                refine hK.out _ _ ?_ (fun hHeld1 => ?_)
                · (try dsimp only)
                  refine S_of_ext ?_
                  exact (by repeat (first | (with_reducible exact Ext.refl _) | (with_reducible refine Ext.up ?_ _) | (with_reducible refine Ext.alloc ?_ _) | (with_reducible refine Ext.drew ?_) | (with_reducible refine Ext.setRow ?_ (by first | exact LeS.le | exact LeS.add _ | (simp; done) | (simp; omega)) _) | (with_reducible refine Ext.setCell ?_ (by first | exact LeS.le | exact LeS.add _ | (simp; done) | (simp; omega)) _)))
                clear hK K hHeld
                have hHeld := hHeld1; clear hHeld1
                try simp only [Act.put, List.setIfInBounds_toArray, List.set_cons_zero, List.set_cons_succ]
                refine wpAnyH_take (i := 11) (v := ?_) (opAt rfl) (by kernel_rfl) (by kernel_rfl) (by kernel_rfl) (fun _ _ _ h => h) (Or.inl ⟨by rfl, ?_⟩) (by assumption) ?_
                rotate_left
                · (intro w hSw; (try dsimp only at hSw); go_simp) <;> with_reducible rfl
                try simp only [Act.put, List.setIfInBounds_toArray, List.set_cons_zero, List.set_cons_succ]
                refine wpAnyH_done (by kernel_rfl) ?_ _
                go_wp2_with fail
                go_meet
                have hza := za.ext.size
                have hzr := zr.ext.size
                simp at hza hzr
                refine ⟨_, tsE, rfl, (by repeat (first | (with_reducible exact Ext.refl _) | (with_reducible refine Ext.up ?_ _) | (with_reducible refine Ext.alloc ?_ _) | (with_reducible refine Ext.drew ?_) | (with_reducible refine Ext.setRow ?_ (by first | exact LeS.le | exact LeS.add _ | (simp; done) | (simp; omega)) _) | (with_reducible refine Ext.setCell ?_ (by first | exact LeS.le | exact LeS.add _ | (simp; done) | (simp; omega)) _))), ?_, Row.setRow (show Row 56 _ _ zeros from (by repeat (first | (with_reducible exact Row.of_eq (heap_alloc_new _ _) vA_zeros.symm) | (exact Row.of_eq (heap_alloc_at (by simp)) vA_zeros.symm) | (with_reducible refine Row.up ?_ (Extd.ext _)) | (with_reducible refine Row.alloc ?_ _) | (with_reducible refine Row.drew ?_)))) _, ?_, hE2⟩
                · first | exact LeS.le | (simp; done) | (simp; omega)
                · refine OE.lo (lo := za.val.heap.size) ?_ (by first | exact LeS.le | (simp; omega))
                  first
                  | (refine OE.lo (OE.keptLow oE (grownBy_setRow _ _ _) ?_) ?_; (first | exact LtS.lt | (simp; done) | (simp; omega)); (first | exact LeS.le | (simp; omega)))
                  | exact (oE.up (by repeat (first | (with_reducible exact Ext.refl _) | (with_reducible refine Ext.up ?_ _) | (with_reducible refine Ext.alloc ?_ _) | (with_reducible refine Ext.drew ?_) | (with_reducible refine Ext.setRow ?_ (by first | exact LeS.le | exact LeS.add _ | (simp; done) | (simp; omega)) _) | (with_reducible refine Ext.setCell ?_ (by first | exact LeS.le | exact LeS.add _ | (simp; done) | (simp; omega)) _)))).lo (by first | exact LeS.le | (simp; omega))
              exact AllReadyH.nil
            exact AllReadyH.nil
          exact AllReadyH.nil
        refine AllReadyH.cons (opAt rfl) (fun K hK => ?_) ?_
        · go_simp
          refine hK.out _ _ ?_ (fun hHeld1 => ?_)
          · (try dsimp only)
            refine S_of_ext ?_
            exact (by repeat (first | (with_reducible exact Ext.refl _) | (with_reducible refine Ext.up ?_ _) | (with_reducible refine Ext.alloc ?_ _) | (with_reducible refine Ext.drew ?_) | (with_reducible refine Ext.setRow ?_ (by first | exact LeS.le | exact LeS.add _ | (simp; done) | (simp; omega)) _) | (with_reducible refine Ext.setCell ?_ (by first | exact LeS.le | exact LeS.add _ | (simp; done) | (simp; omega)) _)))
          clear hK K hHeld
          have hHeld := hHeld1; clear hHeld1
          try simp only [Act.put, List.setIfInBounds_toArray, List.set_cons_zero, List.set_cons_succ]
          refine wpAnyH_ready (rs := [2]) (by kernel_rfl) (by simp) ?_
          refine AllReadyH.cons (opAt rfl) (fun K hK => ?_) ?_
          · go_simp
            (go_at_call 26; (with_reducible refine (ka _ (H.out.up (by repeat (first | (with_reducible exact Ext.refl _) | (with_reducible refine Ext.up ?_ _) | (with_reducible refine Ext.alloc ?_ _) | (with_reducible refine Ext.drew ?_) | (with_reducible refine Ext.setRow ?_ (by first | exact LeS.le | exact LeS.add _ | (simp; done) | (simp; omega)) _) | (with_reducible refine Ext.setCell ?_ (by first | exact LeS.le | exact LeS.add _ | (simp; done) | (simp; omega)) _))))).mono ?_); rintro e w' ⟨rfl, ⟨za, rfl⟩⟩)
            try go_wp2_with fail
            refine hK.out _ _ ?_ (fun hHeld1 => ?_)
            · (try dsimp only)
              refine S_of_ext ?_
              exact (by repeat (first | (with_reducible exact Ext.refl _) | (with_reducible refine Ext.up ?_ _) | (with_reducible refine Ext.alloc ?_ _) | (with_reducible refine Ext.drew ?_) | (with_reducible refine Ext.setRow ?_ (by first | exact LeS.le | exact LeS.add _ | (simp; done) | (simp; omega)) _) | (with_reducible refine Ext.setCell ?_ (by first | exact LeS.le | exact LeS.add _ | (simp; done) | (simp; omega)) _)))
            clear hK K hHeld
            have hHeld := hHeld1; clear hHeld1
            try simp only [Act.put, List.setIfInBounds_toArray, List.set_cons_zero, List.set_cons_succ]
            refine wpAnyH_ready (rs := [5]) (by kernel_rfl) (by simp) ?_
            refine AllReadyH.cons (opAt rfl) (fun K hK => ?_) ?_
            · go_simp
              (go_at_call 25; (with_reducible refine (kr _ (Hx.out.up (by repeat (first | (with_reducible exact Ext.refl _) | (with_reducible refine Ext.up ?_ _) | (with_reducible refine Ext.alloc ?_ _) | (with_reducible refine Ext.drew ?_) | (with_reducible refine Ext.setRow ?_ (by first | exact LeS.le | exact LeS.add _ | (simp; done) | (simp; omega)) _) | (with_reducible refine Ext.setCell ?_ (by first | exact LeS.le | exact LeS.add _ | (simp; done) | (simp; omega)) _))))).mono ?_); rintro e w' ⟨v7, tsE, rfl, ⟨zr, rfl⟩, oE, hE2⟩)
              try go_wp2_with fail
              refine hK.out _ _ ?_ (fun hHeld1 => ?_)
              · (try dsimp only)
                refine S_of_ext ?_
                exact (by repeat (first | (with_reducible exact Ext.refl _) | (with_reducible refine Ext.up ?_ _) | (with_reducible refine Ext.alloc ?_ _) | (with_reducible refine Ext.drew ?_) | (with_reducible refine Ext.setRow ?_ (by first | exact LeS.le | exact LeS.add _ | (simp; done) | (simp; omega)) _) | (with_reducible refine Ext.setCell ?_ (by first | exact LeS.le | exact LeS.add _ | (simp; done) | (simp; omega)) _)))
              clear hK K hHeld
              have hHeld := hHeld1; clear hHeld1
              try simp only [Act.put, List.setIfInBounds_toArray, List.set_cons_zero, List.set_cons_succ]
              refine wpAnyH_take (i := 6) (v := ?_) (opAt rfl) (by kernel_rfl) (by kernel_rfl) (by kernel_rfl) (fun _ _ _ h => h) (Or.inl ⟨by rfl, ?_⟩) (by assumption) ?_
              rotate_left
              · (intro w hSw; (try dsimp only at hSw); go_simp) <;> with_reducible rfl
              try simp only [Act.put, List.setIfInBounds_toArray, List.set_cons_zero, List.set_cons_succ]
              refine wpAnyH_take (i := 7) (v := ?_) (opAt rfl) (by kernel_rfl) (by kernel_rfl) (by kernel_rfl) (fun _ _ _ h => h) (Or.inl ⟨by rfl, ?_⟩) (by assumption) ?_
              rotate_left
              · (intro w hSw; (try dsimp only at hSw); go_simp) <;> with_reducible rfl
              try simp only [Act.put, List.setIfInBounds_toArray, List.set_cons_zero, List.set_cons_succ]
              refine wpAnyH_take (i := 8) (v := ?_) (opAt rfl) (by kernel_rfl) (by kernel_rfl) (by kernel_rfl) (fun _ _ _ h => h) (Or.inl ⟨by rfl, ?_⟩) (by assumption) ?_
              rotate_left
              · (intro w hSw; (try dsimp only at hSw); go_simp) <;> with_reducible rfl
              try simp only [Act.put, List.setIfInBounds_toArray, List.set_cons_zero, List.set_cons_succ]
              refine wpAnyH_ready (rs := [10]) (by kernel_rfl) (by simp) ?_
              refine AllReadyH.cons (opAt rfl) (fun K hK => ?_) ?_
              · rw [if_pos (by rfl)]
                refine wp_store_row _ _ _ rfl _ _ rfl rfl _ _ (show Row 56 _ _ zeros from (by repeat (first | (with_reducible exact Row.of_eq (heap_alloc_new _ _) vA_zeros.symm) | (exact Row.of_eq (heap_alloc_at (by simp)) vA_zeros.symm) | (with_reducible refine Row.up ?_ (Extd.ext _)) | (with_reducible refine Row.alloc ?_ _) | (with_reducible refine Row.drew ?_)))).eq (by rw [vA_size, Hvl.out]; exact Tryz.sVals) (by rw [vA_size, vA_size, Hvl.out]; rfl) (vA_one _) ?_
                refine hK.out _ _ ?_ (fun hHeld1 => ?_)
                · (try dsimp only)
                  refine S_of_ext ?_
                  exact (by repeat (first | (with_reducible exact Ext.refl _) | (with_reducible refine Ext.up ?_ _) | (with_reducible refine Ext.alloc ?_ _) | (with_reducible refine Ext.drew ?_) | (with_reducible refine Ext.setRow ?_ (by first | exact LeS.le | exact LeS.add _ | (simp; done) | (simp; omega)) _) | (with_reducible refine Ext.setCell ?_ (by first | exact LeS.le | exact LeS.add _ | (simp; done) | (simp; omega)) _)))
                clear hK K hHeld
                have hHeld := hHeld1; clear hHeld1
                try simp only [Act.put, List.setIfInBounds_toArray, List.set_cons_zero, List.set_cons_succ]
                refine wpAnyH_take (i := 11) (v := ?_) (opAt rfl) (by kernel_rfl) (by kernel_rfl) (by kernel_rfl) (fun _ _ _ h => h) (Or.inl ⟨by rfl, ?_⟩) (by assumption) ?_
                rotate_left
                · (intro w hSw; (try dsimp only at hSw); go_simp) <;> with_reducible rfl
                try simp only [Act.put, List.setIfInBounds_toArray, List.set_cons_zero, List.set_cons_succ]
                refine wpAnyH_done (by kernel_rfl) ?_ _
                go_wp2_with fail
                go_meet
                have hza := za.ext.size
                have hzr := zr.ext.size
                simp at hza hzr
                refine ⟨_, tsE, rfl, (by repeat (first | (with_reducible exact Ext.refl _) | (with_reducible refine Ext.up ?_ _) | (with_reducible refine Ext.alloc ?_ _) | (with_reducible refine Ext.drew ?_) | (with_reducible refine Ext.setRow ?_ (by first | exact LeS.le | exact LeS.add _ | (simp; done) | (simp; omega)) _) | (with_reducible refine Ext.setCell ?_ (by first | exact LeS.le | exact LeS.add _ | (simp; done) | (simp; omega)) _))), ?_, Row.setRow (show Row 56 _ _ zeros from (by repeat (first | (with_reducible exact Row.of_eq (heap_alloc_new _ _) vA_zeros.symm) | (exact Row.of_eq (heap_alloc_at (by simp)) vA_zeros.symm) | (with_reducible refine Row.up ?_ (Extd.ext _)) | (with_reducible refine Row.alloc ?_ _) | (with_reducible refine Row.drew ?_)))) _, ?_, hE2⟩
                · first | exact LeS.le | (simp; done) | (simp; omega)
                · refine OE.lo (lo := za.val.heap.size) ?_ (by first | exact LeS.le | (simp; omega))
                  first
                  | (refine OE.lo (OE.keptLow oE (grownBy_setRow _ _ _) ?_) ?_; (first | exact LtS.lt | (simp; done) | (simp; omega)); (first | exact LeS.le | (simp; omega)))
                  | exact (oE.up (by repeat (first | (with_reducible exact Ext.refl _) | (with_reducible refine Ext.up ?_ _) | (with_reducible refine Ext.alloc ?_ _) | (with_reducible refine Ext.drew ?_) | (with_reducible refine Ext.setRow ?_ (by first | exact LeS.le | exact LeS.add _ | (simp; done) | (simp; omega)) _) | (with_reducible refine Ext.setCell ?_ (by first | exact LeS.le | exact LeS.add _ | (simp; done) | (simp; omega)) _)))).lo (by first | exact LeS.le | (simp; omega))
              exact AllReadyH.nil
            exact AllReadyH.nil
          exact AllReadyH.nil
        exact AllReadyH.nil
      case rest =>
        obtain ⟨G, tsE, rfl, EC, hWG, rG, oE, hE2⟩ := hcut
        obtain ⟨zc, rfl⟩ := Up.of EC
        obtain ⟨p7, c7, rfl, _, hcE⟩ := oE.openW
        rw [← hE2] at HT2 HES hE10
        rw [List.length_map] at hE10
        have HRG := Lib.hid rG; have HcE := Lib.hid hcE
        have hLG : LtS G zc.val := rG.lts
        have hzc := zc.ext.size
        simp at hzc hWG
        clear rG hcE oE hE2 EC ka kr
        go_wp2_with fail
        go_loopw [8, 38] (fun s8 s38 wr => ∃ (j : Nat), s38 = .int .i64 j ∧ j ≤ tsE.length ∧ s8 = .int .i64 (maskN ((allW ((tsE.map TE.core).take j)).map (·.k))) ∧ Up zc.val wr) (fun _ s38 _ => tsE.length - (intOf s38).toNat)
        case atStart => exact ⟨0, rfl, Nat.zero_le _, rfl, (.of (by repeat (first | (with_reducible exact Ext.refl _) | (with_reducible refine Ext.up ?_ _) | (with_reducible refine Ext.alloc ?_ _) | (with_reducible refine Ext.drew ?_) | (with_reducible refine Ext.setRow ?_ (by first | exact LeS.le | exact LeS.add _ | (simp; done) | (simp; omega)) _) | (with_reducible refine Ext.setCell ?_ (by first | exact LeS.le | exact LeS.add _ | (simp; done) | (simp; omega)) _))))⟩
        case round =>
          obtain ⟨j, rfl, hj, rfl, ⟨zj, rfl⟩⟩ := hrel
          by_cases hjl : j < tsE.length
          · obtain ⟨x, hxj⟩ := getElem?_some_of_lt hjl
            obtain ⟨bE, oE, pr, cr, pw, cw, rfl, hbE, hLE, g0, g1, g2, hxl, hcw⟩ := HcE.out j x hxj
            have hxc : (tsE.map TE.core)[j]? = some x.core := by rw [List.getElem?_map, hxj]; rfl
            have hmid := Lib.hid (fun i => show ∀ n ∈ (allW ((tsE.map TE.core).take j) ++ x.w.take i).map (·.k), 0 ≤ n ∧ n ≤ 31 from keys_mid (es := tsE.map TE.core) HES.out hxc i)
            have hsn := Lib.hid (allW_snoc hxc)
            have hxw := HES.out x.core (List.mem_of_getElem? hxc)
            have Hcw := Lib.hid hcw; have Hxw := Lib.hid hxw
            have j0 : (0 : Int) ≤ (j : Int) := by omega
            have j1 : (j : Int) < tsE.length := by omega
            generalize hAA : allW ((tsE.map TE.core).take j) = AA at *
            have hM0 : Hid (maskN (AA.map (·.k)) = maskN ((AA ++ x.w.take 0).map (·.k))) := Lib.hid (by rw [List.take_zero, List.append_nil])
            generalize maskN (AA.map (·.k)) = M0 at *
            clear hxj hxc hcw hxw hAA
            go_wp2_with fail
            go_loopw [8, 45] (fun s8 s45 wr => ∃ (i : Nat), s45 = .int .i64 i ∧ i ≤ x.w.length ∧ s8 = .int .i64 (maskN ((AA ++ x.w.take i).map (·.k))) ∧ Up zc.val wr) (fun _ s45 _ => x.w.length - (intOf s45).toNat)
            case atStart => exact ⟨0, rfl, Nat.zero_le _, by rw [← hM0.out], (.of (by repeat (first | (with_reducible exact Ext.refl _) | (with_reducible refine Ext.up ?_ _) | (with_reducible refine Ext.alloc ?_ _) | (with_reducible refine Ext.drew ?_) | (with_reducible refine Ext.setRow ?_ (by first | exact LeS.le | exact LeS.add _ | (simp; done) | (simp; omega)) _) | (with_reducible refine Ext.setCell ?_ (by first | exact LeS.le | exact LeS.add _ | (simp; done) | (simp; omega)) _))))⟩
            case round =>
              obtain ⟨i, rfl, hi, rfl, ⟨zi, rfl⟩⟩ := hrel
              by_cases hil : i < x.w.length
              · obtain ⟨e, hei⟩ := getElem?_some_of_lt hil
                obtain ⟨bw, ow, rfl, hbw, hLw, q0, q1⟩ := Hcw.out i e hei
                have hek := entsOk_mem Hxw.out (x := e) (List.mem_of_getElem? hei)
                obtain ⟨ek0, ek1, _, _⟩ := hek
                have hor : Hid (bits BinOp.or IntKind.i64 (maskN ((AA ++ x.w.take i).map (·.k))) (wrap64 (2 ^ e.k.toNat)) = (maskN ((AA ++ x.w.take (i + 1)).map (·.k)) : Int)) := Lib.hid (by rw [mask_or (hmid.out i) ek0 ek1, List.take_add_one, hei]; simp)
                have i0 : (0 : Int) ≤ (i : Int) := by omega
                have i1 : (i : Int) < x.w.length := by omega
                generalize maskN ((AA ++ x.w.take i).map (·.k)) = M at *
                clear hei
                go_wp2_with fail
                go_roundw
                case rel => exact ⟨i + 1, by go_num, by omega, by rw [hor.out], (.of (by repeat (first | (with_reducible exact Ext.refl _) | (with_reducible refine Ext.up ?_ _) | (with_reducible refine Ext.alloc ?_ _) | (with_reducible refine Ext.drew ?_) | (with_reducible refine Ext.setRow ?_ (by first | exact LeS.le | exact LeS.add _ | (simp; done) | (simp; omega)) _) | (with_reducible refine Ext.setCell ?_ (by first | exact LeS.le | exact LeS.add _ | (simp; done) | (simp; omega)) _))))⟩
                case measure => simp [intOf]; omega
              · obtain rfl : i = x.w.length := by omega
                have hfin : Hid (maskN ((AA ++ x.w.take x.w.length).map (·.k)) = maskN ((allW ((tsE.map TE.core).take (j + 1))).map (·.k))) := Lib.hid (by rw [hsn.out, List.take_length]; rfl)
                generalize maskN ((AA ++ x.w.take x.w.length).map (·.k)) = M at *
                go_wp2_with fail
                go_roundw
                case rel => exact ⟨j + 1, by go_num, by omega, by rw [hfin.out], (.of (by repeat (first | (with_reducible exact Ext.refl _) | (with_reducible refine Ext.up ?_ _) | (with_reducible refine Ext.alloc ?_ _) | (with_reducible refine Ext.drew ?_) | (with_reducible refine Ext.setRow ?_ (by first | exact LeS.le | exact LeS.add _ | (simp; done) | (simp; omega)) _) | (with_reducible refine Ext.setCell ?_ (by first | exact LeS.le | exact LeS.add _ | (simp; done) | (simp; omega)) _))))⟩
                case measure => simp [intOf]; omega
          · obtain rfl : j = tsE.length := by omega
            have hall : (tsE.map TE.core).take tsE.length = tsE.map TE.core := List.take_of_length_le (by simp)
            rw [hall]
            have hKin : ∀ n ∈ (allW (tsE.map TE.core)).map (·.k), 0 ≤ n ∧ n ≤ 31 := fun n hn => by
              obtain ⟨e, he, rfl⟩ := List.mem_map.1 hn
              have := allW_in HES.out e he
              exact ⟨this.1, this.2.1⟩
            have hbt := Lib.hid (fun i => maskN_bit _ i (fun n hn => (hKin n hn).1))
            have hml := maskN_lt _ hKin
            generalize hK : (allW (tsE.map TE.core)).map (·.k) = K at *
            generalize hM : maskN K = M at *
            clear hall hKin hK
            have hV := Hvl.out
            generalize E.1 = V at *
            go_wp2_with (refine wpList_load_row rfl _ _ rfl _ rfl _ _ _ _ (HRG.out.up (by repeat (first | (with_reducible exact Ext.refl _) | (with_reducible refine Ext.up ?_ _) | (with_reducible refine Ext.alloc ?_ _) | (with_reducible refine Ext.drew ?_) | (with_reducible refine Ext.setRow ?_ (by first | exact LeS.le | exact LeS.add _ | (simp; done) | (simp; omega)) _) | (with_reducible refine Ext.setCell ?_ (by first | exact LeS.le | exact LeS.add _ | (simp; done) | (simp; omega)) _)))).eq Tryz.underlying56 rfl (by rw [vA_size, Hvl.out]; exact Tryz.sVals) ?_)
            have E0 : Ext z.val (zj.val.alloc (.cells #[.int .i64 P, .slice none 0 0] 66)) := (by repeat (first | (with_reducible exact Ext.refl _) | (with_reducible refine Ext.up ?_ _) | (with_reducible refine Ext.alloc ?_ _) | (with_reducible refine Ext.drew ?_) | (with_reducible refine Ext.setRow ?_ (by first | exact LeS.le | exact LeS.add _ | (simp; done) | (simp; omega)) _) | (with_reducible refine Ext.setCell ?_ (by first | exact LeS.le | exact LeS.add _ | (simp; done) | (simp; omega)) _)))
            have E1 : Ext z1.val (zj.val.alloc (.cells #[.int .i64 P, .slice none 0 0] 66)) := (by repeat (first | (with_reducible exact Ext.refl _) | (with_reducible refine Ext.up ?_ _) | (with_reducible refine Ext.alloc ?_ _) | (with_reducible refine Ext.drew ?_) | (with_reducible refine Ext.setRow ?_ (by first | exact LeS.le | exact LeS.add _ | (simp; done) | (simp; omega)) _) | (with_reducible refine Ext.setCell ?_ (by first | exact LeS.le | exact LeS.add _ | (simp; done) | (simp; omega)) _)))
            have R18 : (zj.val.alloc (.cells #[.int .i64 P, .slice none 0 0] 66)).heap[zj.val.heap.size]? = some (.cells #[.int .i64 P, .slice none 0 0] 66 (0, 0)) := heap_alloc_new _ _
            have hzj := zj.ext.size
            have hz13 : z.val.heap.size ≤ zj.val.heap.size := by omega
            have hz1 : z1.val.heap.size ≤ zj.val.heap.size := Nat.le_trans z.ext.size hz13
            have hlt13 : zj.val.heap.size < (zj.val.alloc (.cells #[.int .i64 P, .slice none 0 0] 66)).heap.size := by simp
            generalize zj.val.heap.size = G13 at *
            generalize (zj.val.alloc (.cells #[.int .i64 P, .slice none 0 0] 66)) = W18 at *
            have HE0 := Lib.hid E0; have HE1 := Lib.hid E1; have HR18 := Lib.hid R18
            have hLG18 : LtS G13 W18 := ⟨hlt13⟩
            clear E0 E1 R18 hzj
            go_loopw [14, 15, 63] (fun _ _ s63 wr => ∃ (i : Nat) (u : Value), s63 = .int .i64 i ∧ i ≤ 32 ∧ (∃ z' : ExtR G13 W18, wr = z'.val) ∧ wr.heap[G13]? = some (.cells #[.int .i64 P, u] 66 (0, 0)) ∧ Own Ent.enc 64 2 W18.heap.size wr u (wrTo K V i)) (fun _ _ s63 _ => 32 - (intOf s63).toNat)
            case atStart => exact ⟨0, _, rfl, Nat.zero_le _, ⟨⟨_, grownBy_refl _ _⟩, rfl⟩, HR18.out, Own.nil _ _ _ _ _⟩
            case round =>
              obtain ⟨i, u, rfl, hi, ⟨zi, rfl⟩, hrow, hu⟩ := hrel
              obtain ⟨pu, cu, rfl, _, _⟩ := (hu.sl Ent.enc_length).openc
              have hLGi : LtS G13 zi.val := inferInstance
              have HU := Lib.hid hu; have HROW := Lib.hid hrow
              by_cases hil : i < 32
              · obtain ⟨x, hxi⟩ := getElem?_some_of_lt (l := V) (k := i) (by rw [hV]; exact hil)
                have hix := run_index_vA Tryz.underlying56 Tryz.underlying3 Tryz.sInt (i := (i : Int)) (by omega) (by omega) hxi
                have i0 : (0 : Int) ≤ (i : Int) := by omega
                have i1 : (i : Int) < 32 := by omega
                have hle := wrTo_len K V i
                have hand := mask_and (M := M) (i := i) hml
                rw [hbt.out i] at hand
                have gu : zi.val.cell? ⟨G13, 1, none⟩ = some (.slice pu (wrTo K V i).length cu) := cell_of_row _ _ 1 _ _ _ hrow
                have fu : zi.val.frozen? ⟨G13, 1, none⟩ = false := frozen_of_row _ _ 1 _ _ hrow
                by_cases hin : (i : Int) ∈ K
                · rw [decide_eq_true hin] at hand
                  have Hs := Lib.hid (wrTo_yes hxi hin)
                  generalize hww : wrTo K V i = ww at *
                  have HEi := Lib.hid (show Ext w zi.val from Ext.upR (show Ext w W18 from Ext.trans (by repeat (first | (with_reducible exact Ext.refl _) | (with_reducible refine Ext.up ?_ _) | (with_reducible refine Ext.alloc ?_ _) | (with_reducible refine Ext.drew ?_) | (with_reducible refine Ext.setRow ?_ (by first | exact LeS.le | exact LeS.add _ | (simp; done) | (simp; omega)) _) | (with_reducible refine Ext.setCell ?_ (by first | exact LeS.le | exact LeS.add _ | (simp; done) | (simp; omega)) _))) HE1.out) (by have := z1.ext.size; simp at this; omega) zi)
                  clear hww hin hxi hu hrow
                  go_wp2_with (at_builtin; refine wpList_pushG fEnt rfl (.tmp 73) (.tmp 77) rfl Ent.enc Ent.enc_length w (lo := W18.heap.size) [(⟨(i : Int), x⟩ : Ent)] ww rfl HU.out HEi.out (by have := HEi.out.size; have := z1.ext.size; simp at this; omega) zi.grown.size rfl rfl (by go_simp) rfl (oneE _) (by simp; omega) (by simp; omega) ?_; intro v9 z9 o9 g9 b9; obtain ⟨p9, c9, hv9, _, _⟩ := (o9.sl Ent.enc_length).openc; rw [List.length_append] at hv9; rw [show ([(⟨(i : Int), x⟩ : Ent)]).length = 1 from rfl] at hv9; subst hv9; obtain ⟨R9, G9⟩ := keepRow0 (w := W18) zi.grown HU.out hlt13 (Nat.le_refl _) HROW.out g9; have e91 := cell_of_row _ _ 1 _ _ _ R9; have e9f := frozen_of_row _ _ 1 _ _ R9; have hL9 : LtS G13 z9.val := ⟨(Array.getElem?_eq_some_iff.1 R9).1⟩)
                  have O9 := Lib.hid o9; have HR9 := Lib.hid R9; have HG9 := Lib.hid G9
                  clear o9 g9 b9 R9 G9
                  go_wp2_with fail
                  go_roundw
                  case rel => exact ⟨i + 1, _, by go_num, by omega, ExtR.of (grownBy_trans HG9.out (grownBy_set _ _ _)), (heap_setCell_same _ _ 1 _ _ _ HR9.out).trans rfl, by rw [Hs.out]; exact O9.out.setOld _ _ hlt13⟩
                  case measure => simp [intOf]; omega
                · rw [decide_eq_false hin] at hand
                  have Hs := Lib.hid (wrTo_no (V := V) hin)
                  generalize hww : wrTo K V i = ww at *
                  clear hww hin hxi hu hrow
                  go_wp2_with fail
                  go_roundw
                  case rel => exact ⟨i + 1, _, by go_num, by omega, ⟨zi, rfl⟩, HROW.out, by rw [Hs.out]; exact HU.out⟩
                  case measure => simp [intOf]; omega
              · obtain rfl : i = 32 := by omega
                have E0i := Ext.upR HE0.out hz13 zi
                have E1i := Ext.upR HE1.out hz1 zi
                have gP : zi.val.cell? ⟨G13, 0, none⟩ = some (.int .i64 P) := cell_of_row _ _ 0 _ _ _ hrow
                have gu : zi.val.cell? ⟨G13, 1, none⟩ = some (.slice pu (wrTo K V 32).length cu) := cell_of_row _ _ 1 _ _ _ hrow
                have HOYi := Lib.hid (HOY.out.up E0i)
                have hAP := Lib.hid (Apart.of_lt HOY.out.1 HU.out (Nat.le_trans hz13 (Nat.le_of_lt hlt13))).symm
                have hPA := Lib.hid (fun (y : TL) (hy : y ∈ ts) => Apart.of_lt (HOY.out.2 y hy).1 HU.out (Nat.le_trans hz13 (Nat.le_of_lt hlt13)))
                have HE1i := Lib.hid E1i
                have hzi := zi.grown.size
                have HT3 := Lib.hid (HT2.out (.slice pu (wrTo K V 32).length cu))
                generalize wrTo K V 32 = ww at *
                have HUl := Lib.hid (HU.out.lo (lo' := z1.val.heap.size) (by omega))
                have htl14 : ts.length ≤ 14 := by have := Htl.out; omega
                clear hu hrow E0i E1i
                go_wp2_with (at_builtin; refine wpList_pushG fLyr rfl (.tmp 81) (.tmp 83) rfl TL.enc TL.enc_length z1.val (lo := z1.val.heap.size) [(⟨P, .slice pu ww.length cu, ww⟩ : TL)] ts rfl HOYi.out.1 HE1i.out (Nat.le_refl _) HE1i.out.size rfl rfl (by go_simp) rfl (by simp [TL.enc, Value.oneCell']) (by simp; omega) (by simp; omega) ?_; intro v9 z9 o9 g9 b9)
                have OY9 := Lib.hid (OY.snoc (x := ⟨P, .slice pu ww.length cu, ww⟩) (HOYi.out.up ((Ext.refl _).alloc _)) g9 b9 o9 (HUl.out.up ((Ext.refl _).alloc _)) hAP.out)
                have HP9 := Lib.hid (PWY.snoc (x := ⟨P, .slice pu ww.length cu, ww⟩) HPW.out hPA.out)
                clear o9 g9 b9
                go_wp2_with fail
                go_roundw
                case rel => exact ⟨k + 1, _, by go_num, by omega, ⟨z9, rfl⟩, OY9.out, HP9.out, HT3.out⟩
                case measure => simp [intOf]; omega
    · obtain rfl : k = t.bs.length := by omega
      have HOY := Lib.hid hoy; have HPW := Lib.hid hpw; have HTS := Lib.hid hts
      obtain ⟨p3, c3, rfl, _, _⟩ := (hoy.1.sl TL.enc_length).openc
      clear hoy hpw hts
      go_wp2_with fail
      go_ret
      first | exact ⟨_, ts, rfl, (.of (by repeat (first | (with_reducible exact Ext.refl _) | (with_reducible refine Ext.up ?_ _) | (with_reducible refine Ext.alloc ?_ _) | (with_reducible refine Ext.drew ?_) | (with_reducible refine Ext.setRow ?_ (by first | exact LeS.le | exact LeS.add _ | (simp; done) | (simp; omega)) _) | (with_reducible refine Ext.setCell ?_ (by first | exact LeS.le | exact LeS.add _ | (simp; done) | (simp; omega)) _)))), HOY.out.lo LeS.le, HPW.out, HTS.out⟩ | exact ⟨_, rfl, (.of (by repeat (first | (with_reducible exact Ext.refl _) | (with_reducible refine Ext.up ?_ _) | (with_reducible refine Ext.alloc ?_ _) | (with_reducible refine Ext.drew ?_) | (with_reducible refine Ext.setRow ?_ (by first | exact LeS.le | exact LeS.add _ | (simp; done) | (simp; omega)) _) | (with_reducible refine Ext.setCell ?_ (by first | exact LeS.le | exact LeS.add _ | (simp; done) | (simp; omega)) _)))), ts, HOY.out.lo LeS.le, HPW.out, HTS.out⟩ | exact ⟨ts, _, rfl, (.of (by repeat (first | (with_reducible exact Ext.refl _) | (with_reducible refine Ext.up ?_ _) | (with_reducible refine Ext.alloc ?_ _) | (with_reducible refine Ext.drew ?_) | (with_reducible refine Ext.setRow ?_ (by first | exact LeS.le | exact LeS.add _ | (simp; done) | (simp; omega)) _) | (with_reducible refine Ext.setCell ?_ (by first | exact LeS.le | exact LeS.add _ | (simp; done) | (simp; omega)) _)))), HOY.out.lo LeS.le, HPW.out, HTS.out⟩ | exact ⟨_, rfl, ts, (.of (by repeat (first | (with_reducible exact Ext.refl _) | (with_reducible refine Ext.up ?_ _) | (with_reducible refine Ext.alloc ?_ _) | (with_reducible refine Ext.drew ?_) | (with_reducible refine Ext.setRow ?_ (by first | exact LeS.le | exact LeS.add _ | (simp; done) | (simp; omega)) _) | (with_reducible refine Ext.setCell ?_ (by first | exact LeS.le | exact LeS.add _ | (simp; done) | (simp; omega)) _)))), HOY.out.lo LeS.le, HPW.out, HTS.out⟩ | trace_state
end Go.Proofs.YteiemjebdhmnaaaGreat
