/- Walks: actions over a store: the reference's side. Walks: runs, the reference's side. Walks: drawn stores. -/
import Derived.Test.YtknohbdhbjppjaaGreatGStxTop12
import Derived.Test.YtknohbdhbjppjaaGreatGStxTop10
import Derived.Test.YtknohbdhbjppjaaGreatGStxTop11
import Derived.Test.YtknohbdhbjppjaaGreatGStxTop02
import Derived.Test.YtknohbdhbjppjaaGreatGStxTop08
set_option linter.unusedSimpArgs false
set_option linter.unusedVariables false
namespace Go.Proofs.YtknohbdhbjppjaaGreat
open Go Go.RowKit Go.Proofs

set_option maxRecDepth 100000 in
set_option maxHeartbeats 2000000 in
theorem sRunAction_yes (s : List Ent) (x : Actn) (v : Value) (w : World) (h : SL (RF Ent.enc) 2 w v s) (hok : entsOk 1 s = true) (hx : x.ok = true) :
    Calls Tryz.prog 54 #[v, .agg #[.int .i64 x.kind, .int .i64 x.src, .int .i64 x.dst, .int .i64 x.amt]] w fun e w' => ∃ vr vw, e = .returned (.agg #[.bool (runE x (atK s x.src) (atK s x.dst)).d, vr, vw]) ∧ Up w w' ∧
      Own Ent.enc 69 2 w.heap.size w' vr (runE x (atK s x.src) (atK s x.dst)).r ∧ Own Ent.enc 69 2 w.heap.size w' vw (runE x (atK s x.src) (atK s x.dst)).w ∧ Apart vr vw := by
  have H := Lib.hid h
  obtain ⟨p, c, rfl, _, _⟩ := h.openc
  have kv := fun w (h : SL (RF Ent.enc) 2 w (.slice p s.length c) s) => sStoreValid_any s _ w h
  simp only [hok] at kv
  have ka := fun w => sActionValid_any x w
  simp only [hx] at ka
  obtain ⟨f0, f1⟩ := atK_in hok (by decide) x.src
  obtain ⟨t0, t1⟩ := atK_in hok (by decide) x.dst
  clear h
  generalize hE : runE x (atK s x.src) (atK s x.dst) = E
  have kr := fun w => l6Run_any x (atK s x.src) (atK s x.dst) w hx f0 f1 t0 t1
  simp only [hE] at kr
  clear hE hx hok
  go_enter Tryz.func54, Tryz.ntmps54
  go_wp2_with (first | (go_at_call 52; refine (kv _ (H.out.up (by repeat (first | (with_reducible exact Ext.refl _) | (with_reducible refine Ext.up ?_ _) | (with_reducible refine Ext.alloc ?_ _) | (with_reducible refine Ext.drew ?_) | (with_reducible refine Ext.setRow ?_ (by first | exact LeS.le | exact LeS.add _ | (simp; done) | (simp; omega)) _) | (with_reducible refine Ext.setCell ?_ (by first | exact LeS.le | exact LeS.add _ | (simp; done) | (simp; omega)) _))))).mono ?_; rintro e w' ⟨rfl, z1, rfl⟩) | (go_at_call 83; refine (ka _).mono ?_; rintro e w' ⟨rfl, z2, rfl⟩))
  have hsz : w.heap.size + 1 + 1 ≤ z2.val.heap.size := by have h1 := z1.ext.size; have h2 := z2.ext.size; simp at h1 h2; omega
  (go_region_held3 (fun w' => (∀ n i, ∀ [LtS n (w.alloc (.cells #[.int .i64 x.kind, .int .i64 x.src, .int .i64 x.dst, .int .i64 x.amt] 92))], w'.cell? ⟨n, i, none⟩ = World.cell? (w.alloc (.cells #[.int .i64 x.kind, .int .i64 x.src, .int .i64 x.dst, .int .i64 x.amt] 92)) ⟨n, i, none⟩) ∧ Ext (w.alloc (.cells #[.int .i64 x.kind, .int .i64 x.src, .int .i64 x.dst, .int .i64 x.amt] 92)) w') ((refine S_of_ext ?_; (repeat (first | exact Ext.refl _ | refine Ext.up ?_ _ | refine Ext.alloc ?_ _ | refine Ext.drew ?_ | refine Ext.setRow ?_ (by first | (dsimp only; omega) | exact LeS.le | exact LeS.add _ | (simp; done) | (simp; omega)) _ | refine Ext.setCell ?_ (by first | (dsimp only; omega) | exact LeS.le | exact LeS.add _ | (simp; done) | (simp; omega)) _)); done)) (first | (go_at_call 85; refine (l2At_any s _ _ _ (H.out.up (by repeat (first | (with_reducible exact Ext.refl _) | (with_reducible refine Ext.up ?_ _) | (with_reducible refine Ext.alloc ?_ _) | (with_reducible refine Ext.drew ?_) | (with_reducible refine Ext.setRow ?_ (by first | exact LeS.le | exact LeS.add _ | (simp; done) | (simp; omega)) _) | (with_reducible refine Ext.setCell ?_ (by first | exact LeS.le | exact LeS.add _ | (simp; done) | (simp; omega)) _))))).mono ?_; rintro e w' ⟨rfl, rfl⟩) | ((go_at_call 84; refine (kr _).mono ?_; rintro e w' ⟨vr, vw, rfl, ⟨z6, rfl⟩, o1, o2, ap⟩); obtain ⟨p1, c1, rfl, _, _⟩ := (o1.sl Ent.enc_length).openc; obtain ⟨p2, c2, rfl, _, _⟩ := (o2.sl Ent.enc_length).openc)))
  all_goals
    have O1 := Lib.hid o1; have O2 := Lib.hid o2; have AP := Lib.hid ap
    clear o1 o2 ap
    go_wp2_with fail
    refine bodyPost_ret (v := .agg #[.bool E.d, .slice p1 E.r.length c1, .slice p2 E.w.length c2]) (by simp [results, Tryz.results54, go_sem]) rfl ?_
    refine ⟨_, _, rfl, (.of (by repeat (first | (with_reducible exact Ext.refl _) | (with_reducible refine Ext.up ?_ _) | (with_reducible refine Ext.alloc ?_ _) | (with_reducible refine Ext.drew ?_) | (with_reducible refine Ext.setRow ?_ (by first | exact LeS.le | exact LeS.add _ | (simp; done) | (simp; omega)) _) | (with_reducible refine Ext.setCell ?_ (by first | exact LeS.le | exact LeS.add _ | (simp; done) | (simp; omega)) _)))), ?_, ?_, AP.out⟩
    · refine Own.lo (lo := z2.val.heap.size) ?_ (by omega)
      (repeat (first | (with_reducible exact O1.out) | (exact O1.out) | (with_reducible refine Own.setLo ?_ (by omega)) | (with_reducible refine Own.alloc ?_)))
    · refine Own.lo (lo := z2.val.heap.size) ?_ (by omega)
      (repeat (first | (with_reducible exact O2.out) | (exact O2.out) | (with_reducible refine Own.setLo ?_ (by omega)) | (with_reducible refine Own.alloc ?_)))
end Go.Proofs.YtknohbdhbjppjaaGreat
namespace Go.Proofs.YtknohbdhbjppjaaGreat
open Go Go.RowKit Go.Proofs

theorem runE_rlen (x : Actn) (f t : Int) : (runE x f t).r.length ≤ 2 := by
  show (x.rds f t).length ≤ 2
  rw [rds_len]; exact Actn.rk_le x
theorem runAll_len (v : List Int) (l : List Actn) : (runAll v l).2.length = l.length := by
  have key : ∀ (l : List Actn) (p : List Int × List Eff), (l.foldl runStep p).2.length = p.2.length + l.length := by
    intro l
    induction l with
    | nil => intro p; simp
    | cons x l ih => intro p; rw [List.foldl_cons, ih]; simp [runStep]; omega
  simpa [runAll] using key l (v, [])
theorem runE_wlen (x : Actn) (f t : Int) : (runE x f t).w.length ≤ 2 := by
  unfold runE
  dsimp only
  split
  · unfold Actn.wrs sort2
    repeat' split
    all_goals simp
  · simp
theorem runAll_small (v : List Int) (l : List Actn) : ∀ x ∈ (runAll v l).2, x.r.length ≤ 1000 ∧ x.w.length ≤ 1000 := by
  have key : ∀ (l : List Actn) (p : List Int × List Eff), (∀ x ∈ p.2, x.r.length ≤ 1000 ∧ x.w.length ≤ 1000) → ∀ x ∈ (l.foldl runStep p).2, x.r.length ≤ 1000 ∧ x.w.length ≤ 1000 := by
    intro l
    induction l with
    | nil => intro p h; exact h
    | cons y l ih =>
      intro p h
      refine ih _ fun x hx => ?_
      rcases List.mem_append.1 (show x ∈ p.2 ++ [runV p.1 y] from hx) with hx | hx
      · exact h x hx
      · rw [List.mem_singleton] at hx; subst hx
        have h1 := runE_rlen y (p.1.getD y.src.toNat 0) (p.1.getD y.dst.toNat 0)
        have h2 := runE_wlen y (p.1.getD y.src.toNat 0) (p.1.getD y.dst.toNat 0)
        exact ⟨Nat.le_trans h1 (by omega), Nat.le_trans h2 (by omega)⟩
  exact key l (v, []) (by simp)
set_option maxRecDepth 100000 in
set_option maxHeartbeats 2000000 in
theorem sRunSerial_yes (s : List Ent) (l : List Actn) (v vl : Value) (w : World) (h : SL (RF Ent.enc) 2 w v s) (hl : SL (RF Actn.enc) 4 w vl l) (hok : entsOk 1 s = true) (hlk : actsOk l = true) :
    Calls Tryz.prog 29 #[v, vl] w fun e w' => ∃ v1 v2 ts, e = .returned (.tuple #[v1, v2]) ∧ Up w w' ∧ Own Ent.enc 69 2 w.heap.size w' v1 (storeOf (runAll (valsOf s) l).1) ∧
      OE 78 69 w.heap.size w' v2 ts ∧ ts.map TE.core = (runAll (valsOf s) l).2 ∧ Apart v1 v2 := by
  have H := Lib.hid h; have HL := Lib.hid hl
  obtain ⟨p, c, rfl, _, _⟩ := h.openc
  obtain ⟨p3, c3, rfl, hll, hcl⟩ := hl.open
  have hls := entsOk_len hok
  have kv := fun w (h : SL (RF Ent.enc) 2 w (.slice p s.length c) s) => sStoreValid_any s _ w h
  simp only [hok] at kv
  have kw := fun w (h : SL (RF Actn.enc) 4 w (.slice p3 l.length c3) l) => sActionsValid_any l _ w h
  simp only [hlk] at kw
  have hvi : valsIn (valsOf s) := valsOf_in (entsOk_least (by decide) hok)
  have hlen := actsOk_len hlk
  have Hok := Lib.hid hok; have Hlk := Lib.hid hlk; have Hvi := Lib.hid hvi
  clear h hl hok hlk hvi
  go_enter Tryz.func29, Tryz.ntmps29
  go_wp2_with (first | (go_at_call 52; refine (kv _ (H.out.up (by repeat (first | (with_reducible exact Ext.refl _) | (with_reducible refine Ext.up ?_ _) | (with_reducible refine Ext.alloc ?_ _) | (with_reducible refine Ext.drew ?_) | (with_reducible refine Ext.setRow ?_ (by first | exact LeS.le | exact LeS.add _ | (simp; done) | (simp; omega)) _) | (with_reducible refine Ext.setCell ?_ (by first | exact LeS.le | exact LeS.add _ | (simp; done) | (simp; omega)) _))))).mono ?_; rintro e w' ⟨rfl, z1, rfl⟩) | (go_at_call 53; refine (kw _ (HL.out.up (by repeat (first | (with_reducible exact Ext.refl _) | (with_reducible refine Ext.up ?_ _) | (with_reducible refine Ext.alloc ?_ _) | (with_reducible refine Ext.drew ?_) | (with_reducible refine Ext.setRow ?_ (by first | exact LeS.le | exact LeS.add _ | (simp; done) | (simp; omega)) _) | (with_reducible refine Ext.setCell ?_ (by first | exact LeS.le | exact LeS.add _ | (simp; done) | (simp; omega)) _))))).mono ?_; rintro e w' ⟨rfl, z2, rfl⟩) | (at_builtin; refine wpList_catA fEnt rfl (.tmp 21) (.tmp 22) rfl Ent.enc Ent.enc_length w (lo := w.heap.size + 1) s [] rfl (Own.lit rfl (by have h1 := z1.ext.size; have h2 := z2.ext.size; simp at h1 h2 ⊢; omega) rfl rfl Ent.enc_length (by simp)) (by repeat (first | (with_reducible exact Ext.refl _) | (with_reducible refine Ext.up ?_ _) | (with_reducible refine Ext.alloc ?_ _) | (with_reducible refine Ext.drew ?_) | (with_reducible refine Ext.setRow ?_ (by first | exact LeS.le | exact LeS.add _ | (simp; done) | (simp; omega)) _) | (with_reducible refine Ext.setCell ?_ (by first | exact LeS.le | exact LeS.add _ | (simp; done) | (simp; omega)) _))) (Nat.le_succ _) (by have h1 := z1.ext.size; have h2 := z2.ext.size; simp at h1 h2 ⊢; omega) rfl (H.out.up (by repeat (first | (with_reducible exact Ext.refl _) | (with_reducible refine Ext.up ?_ _) | (with_reducible refine Ext.alloc ?_ _) | (with_reducible refine Ext.drew ?_) | (with_reducible refine Ext.setRow ?_ (by first | exact LeS.le | exact LeS.add _ | (simp; done) | (simp; omega)) _) | (with_reducible refine Ext.setCell ?_ (by first | exact LeS.le | exact LeS.add _ | (simp; done) | (simp; omega)) _)))) (oneEs' _) (by simp; omega) (by simp; omega) ?_; intro v1 z3 o1 g1 b1; clear b1))
  have o0 : Own TE.enc 78 3 w.heap.size (w.alloc (.cells #[] 78)) (.slice (some ⟨w.heap.size, 0, none⟩) 0 0) [] := Own.lit rfl (Nat.le_refl _) rfl rfl TE.enc_length (by simp)
  have a0 : Apart v1 (.slice (some ⟨w.heap.size, 0, none⟩) 0 0) := (Apart.of_lt o0 o1 (by simp)).symm
  have O1 := Lib.hid o1
  have hE0 : Ext (w.alloc (.cells #[] 78)) z3.val := by
    refine Ext.grown (a := w.alloc (.cells #[] 78)) (b := z2.val.alloc (.cells #[] 69)) (by repeat (first | (with_reducible exact Ext.refl _) | (with_reducible refine Ext.up ?_ _) | (with_reducible refine Ext.alloc ?_ _) | (with_reducible refine Ext.drew ?_) | (with_reducible refine Ext.setRow ?_ (by first | exact LeS.le | exact LeS.add _ | (simp; done) | (simp; omega)) _) | (with_reducible refine Ext.setCell ?_ (by first | exact LeS.le | exact LeS.add _ | (simp; done) | (simp; omega)) _))) g1 (fun k hk => ?_)
    change (Value.slice (some ⟨z2.val.heap.size, 0, none⟩) 0 0).ownBlock = some k at hk
    have h1 := z1.ext.size; have h2 := z2.ext.size
    simp [Value.ownBlock] at hk h1 h2 ⊢; omega
  have O0 := Lib.hid (o0.up hE0)
  clear o1 o0 g1
  go_loopw [6, 7, 8] (fun s6 s7 s8 wr => ∃ (k : Nat) (ts : List TE), s8 = .int .i64 k ∧ k ≤ l.length ∧ Up w wr ∧ Own Ent.enc 69 2 w.heap.size wr s7 (storeOf (runAll (valsOf s) (l.take k)).1) ∧ OE 78 69 w.heap.size wr s6 ts ∧ ts.map TE.core = (runAll (valsOf s) (l.take k)).2 ∧ Apart s7 s6) (fun _ _ s8 _ => l.length - (intOf s8).toNat)
  case atStart => exact ⟨0, [], rfl, Nat.zero_le _, ⟨z3, rfl⟩, by rw [show (runAll (valsOf s) (l.take 0)).1 = valsOf s from rfl, storeOf_valsOf Hok.out]; exact O1.out.lo (Nat.le_succ _), ⟨O0.out, by simp⟩, rfl, a0⟩
  case round =>
    obtain ⟨k, ts, rfl, hk, ⟨z, rfl⟩, hown, hoe, hts, hap⟩ := hrel
    have hlt10 : (runAll (valsOf s) (l.take k)).2.length ≤ 10 := by rw [runAll_len, List.length_take]; omega
    have htl : ts.length ≤ 10 := by rw [← List.length_map (f := TE.core), hts]; exact hlt10
    have Hown := Lib.hid hown; have Hoe := Lib.hid hoe; have Hts := Lib.hid hts; have Hap := Lib.hid hap
    clear hown hoe hts hap hlt10
    by_cases hlt : k < l.length
    · obtain ⟨x, hxk⟩ := getElem?_some_of_lt hlt
      obtain ⟨g, off, hp, hb, _⟩ := hcl k x hxk
      obtain ⟨c0, c1, c2, c3⟩ := acell hcl hp hxk
      subst hp
      have k0 : (0 : Int) ≤ (k : Int) := by omega
      have k1 : (k : Int) < l.length := by omega
      have hxo := actsOk_at Hlk.out hxk
      have hVi : valsIn (runAll (valsOf s) (l.take k)).1 := runAll_in Hvi.out fun y hy => by obtain ⟨i, hi⟩ := List.getElem?_of_mem (List.mem_of_mem_take hy); exact actsOk_at Hlk.out hi
      have Hsn := Lib.hid (runAll_snoc (valsOf s) hxk)
      generalize hR : runAll (valsOf s) (l.take k) = R at *
      have kr := fun v w h => sRunAction_yes (storeOf R.1) x v w h (storeOf_ok hVi) hxo
      simp only [runE_store hVi hxo] at kr
      have ha := fun vr vw v w hs hu hr => sApplyEffect_yes (storeOf R.1) (runV R.1 x).w (runV R.1 x).d v vr vw w hs hu hr (storeOf_ok hVi) (runV_ok hVi hxo)
      rw [putAll_store hVi (fun e he => by have := entsOk_mem (runV_ok hVi hxo) he; omega)] at ha
      clear hcl hxk hVi hxo hR
      generalize hE : runV R.1 x = E at *
      have HE := Lib.hid hE; clear hE
      go_wp2_with (first | ((go_at_call 54; refine (kr _ _ ((Hown.out.sl Ent.enc_length).up (by repeat (first | (with_reducible exact Ext.refl _) | (with_reducible refine Ext.up ?_ _) | (with_reducible refine Ext.alloc ?_ _) | (with_reducible refine Ext.drew ?_) | (with_reducible refine Ext.setRow ?_ (by first | exact LeS.le | exact LeS.add _ | (simp; done) | (simp; omega)) _) | (with_reducible refine Ext.setCell ?_ (by first | exact LeS.le | exact LeS.add _ | (simp; done) | (simp; omega)) _))))).mono ?_; rintro e w' ⟨vr, vw, rfl, ⟨z4, rfl⟩, q1, q2, ap⟩); obtain ⟨p1, cc1, rfl, _, _⟩ := (q1.sl Ent.enc_length).openc; obtain ⟨p2, cc2, rfl, _, _⟩ := (q2.sl Ent.enc_length).openc; have Q1 := Lib.hid q1; have Q2 := Lib.hid q2; clear q1 q2 ap) | (go_at_call 55; refine (ha _ _ _ _ ((Hown.out.sl Ent.enc_length).up (by repeat (first | (with_reducible exact Ext.refl _) | (with_reducible refine Ext.up ?_ _) | (with_reducible refine Ext.alloc ?_ _) | (with_reducible refine Ext.drew ?_) | (with_reducible refine Ext.setRow ?_ (by first | exact LeS.le | exact LeS.add _ | (simp; done) | (simp; omega)) _) | (with_reducible refine Ext.setCell ?_ (by first | exact LeS.le | exact LeS.add _ | (simp; done) | (simp; omega)) _)))) ((Q2.out.sl Ent.enc_length).up (by repeat (first | (with_reducible exact Ext.refl _) | (with_reducible refine Ext.up ?_ _) | (with_reducible refine Ext.alloc ?_ _) | (with_reducible refine Ext.drew ?_) | (with_reducible refine Ext.setRow ?_ (by first | exact LeS.le | exact LeS.add _ | (simp; done) | (simp; omega)) _) | (with_reducible refine Ext.setCell ?_ (by first | exact LeS.le | exact LeS.add _ | (simp; done) | (simp; omega)) _)))) ⟨_, _, _, rfl⟩).mono ?_; rintro e w' ⟨v8, rfl, ⟨z5, rfl⟩, o8⟩) | (at_builtin; refine wpList_pushG fEff rfl (.tmp 39) (.tmp 41) rfl TE.enc TE.enc_length w (lo := w.heap.size) [⟨E.d, .slice p1 E.r.length cc1, .slice p2 E.w.length cc2, E.r, E.w⟩] ts rfl (Hoe.out.1.up (by repeat (first | (with_reducible exact Ext.refl _) | (with_reducible refine Ext.up ?_ _) | (with_reducible refine Ext.alloc ?_ _) | (with_reducible refine Ext.drew ?_) | (with_reducible refine Ext.setRow ?_ (by first | exact LeS.le | exact LeS.add _ | (simp; done) | (simp; omega)) _) | (with_reducible refine Ext.setCell ?_ (by first | exact LeS.le | exact LeS.add _ | (simp; done) | (simp; omega)) _)))) (by repeat (first | (with_reducible exact Ext.refl _) | (with_reducible refine Ext.up ?_ _) | (with_reducible refine Ext.alloc ?_ _) | (with_reducible refine Ext.drew ?_) | (with_reducible refine Ext.setRow ?_ (by first | exact LeS.le | exact LeS.add _ | (simp; done) | (simp; omega)) _) | (with_reducible refine Ext.setCell ?_ (by first | exact LeS.le | exact LeS.add _ | (simp; done) | (simp; omega)) _))) (Nat.le_refl _) LeS.le rfl rfl (by go_simp) rfl (oneTE _ (by intro y hy; simp at hy; subst hy; exact ⟨⟨_, _, _, rfl⟩, ⟨_, _, _, rfl⟩⟩)) (by simp; omega) (by simp; omega) ?_; intro v7 z7 o7 g7 b7))
      have A8 := Lib.hid (Apart.of_lt Hoe.out.1 o8 (by have := z4.ext.size; simp [setCell_sz]; omega)).symm
      have A1 := Lib.hid (Apart.of_lt Hoe.out.1 Q1.out (by simp)).symm
      have A2 := Lib.hid (Apart.of_lt Hoe.out.1 Q2.out (by simp)).symm
      have hzw := z.ext.size
      have hz4 := z4.ext.size
      have K8 := Own.up o8 (w' := _) (show Ext _ _ from (Ext.refl _).alloc (.cells #[.bool E.d, .slice p1 E.r.length cc1, .slice p2 E.w.length cc2] 78))
      have F8 := Lib.hid (K8.keep g7 A8.out)
      have B8 := Lib.hid (Apart.grown K8 A8.out (Nat.le_refl _) b7)
      have OE7 := Lib.hid (OE.snoc (Hoe.out.up (by repeat (first | (with_reducible exact Ext.refl _) | (with_reducible refine Ext.up ?_ _) | (with_reducible refine Ext.alloc ?_ _) | (with_reducible refine Ext.drew ?_) | (with_reducible refine Ext.setRow ?_ (by first | exact LeS.le | exact LeS.add _ | (simp; done) | (simp; omega)) _) | (with_reducible refine Ext.setCell ?_ (by first | exact LeS.le | exact LeS.add _ | (simp; done) | (simp; omega)) _)))) g7 b7 o7 ((Q1.out.up (by repeat (first | (with_reducible exact Ext.refl _) | (with_reducible refine Ext.up ?_ _) | (with_reducible refine Ext.alloc ?_ _) | (with_reducible refine Ext.drew ?_) | (with_reducible refine Ext.setRow ?_ (by first | exact LeS.le | exact LeS.add _ | (simp; done) | (simp; omega)) _) | (with_reducible refine Ext.setCell ?_ (by first | exact LeS.le | exact LeS.add _ | (simp; done) | (simp; omega)) _)))).lo (by first | omega | (simp; omega))) A1.out ((Q2.out.up (by repeat (first | (with_reducible exact Ext.refl _) | (with_reducible refine Ext.up ?_ _) | (with_reducible refine Ext.alloc ?_ _) | (with_reducible refine Ext.drew ?_) | (with_reducible refine Ext.setRow ?_ (by first | exact LeS.le | exact LeS.add _ | (simp; done) | (simp; omega)) _) | (with_reducible refine Ext.setCell ?_ (by first | exact LeS.le | exact LeS.add _ | (simp; done) | (simp; omega)) _)))).lo (by first | omega | (simp; omega))) A2.out)
      clear o8 o7 g7 b7 K8
      go_wp2_with fail
      go_roundw
      case rel =>
        refine ⟨k + 1, _, by go_num, by omega, ⟨z7, rfl⟩, ?_, OE7.out, ?_, B8.out⟩
        · rw [Hsn.out]
          show Own Ent.enc 69 2 w.heap.size z7.val v8 (storeOf (vsets R.1 (runV R.1 x).w))
          rw [HE.out]
          exact F8.out.lo (by simp [setCell_sz]; omega)
        · rw [Hsn.out]
          show _ = R.2 ++ [runV R.1 x]
          rw [HE.out, List.map_append, Hts.out]; rfl
      case measure => simp [intOf]; omega
    · obtain rfl : k = l.length := by omega
      rw [List.take_length] at Hown Hts
      clear hcl
      go_wp2_with fail
      refine bodyPost_ret (v := .tuple #[u7, u6]) (by simp [results, Tryz.results29, go_sem]) rfl ?_
      exact ⟨_, _, ts, rfl, ⟨z, rfl⟩, Hown.out, Hoe.out, Hts.out, Hap.out⟩
end Go.Proofs.YtknohbdhbjppjaaGreat
namespace Go.Proofs.YtknohbdhbjppjaaGreat
open Go Go.RowKit Go.Proofs

theorem rd_cat {α : Type} {enc : α → List Value} {e sz lo rb : Nat} {lim : Int} {w0 w W w7 : World} {v : Value} {l : List α} (hR : Rd w0 W rb lim) (hG : w.grownBy W (some rb)) (hown : Own enc e sz lo W v l) (hlo : rb < lo) (hw : w.heap.size ≤ lo) (hE : Ext w0 w7) (g7 : W.grownBy w7 v.ownBlock) :
    Rd w0 w7 rb lim ∧ (∃ z : ExtR rb w, w7 = z.val) := by
  refine ⟨hR.grown hE (g7.block rb hR.lt (fun e => ?_)), ExtR.of ?_⟩
  · rcases hown.ne_rb hlo with h | h
    · rw [h] at e; cases e
    · exact h e.symm
  · refine ⟨g7.os.trans hG.os, g7.tape.trans hG.tape, g7.output.trans hG.output, Nat.le_trans hG.size g7.size, fun n hn hne => ?_⟩
    refine (g7.block n (Nat.lt_of_lt_of_le hn hG.size) (fun e => ?_)).trans (hG.block n hn hne)
    have := (World.ownsRow.lt hown n e.symm).1
    omega
end Go.Proofs.YtknohbdhbjppjaaGreat
