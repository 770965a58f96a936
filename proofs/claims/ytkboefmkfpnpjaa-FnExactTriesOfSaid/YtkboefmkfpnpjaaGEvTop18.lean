/- Walks: actions over a store: the reference's side. Walks: runs, the reference's side. Plain laws: actions that are not in conflict change places. Plain laws: the versions of a serial run: what is read in them, and the store that they leave. -/
import Derived.Test.YtkboefmkfpnpjaaGEvTop17
import Derived.Test.YtkboefmkfpnpjaaGEvTop15
import Derived.Test.YtkboefmkfpnpjaaGEvTop16
import Derived.Test.YtkboefmkfpnpjaaGEvTop07
import Derived.Test.YtkboefmkfpnpjaaGEvTop05
set_option linter.unusedSimpArgs false
set_option linter.unusedVariables false
namespace Go.Proofs.Ytkboefmkfpnpjaa
open Go Go.RowKit Go.Proofs

set_option maxRecDepth 100000 in
set_option maxHeartbeats 2000000 in
theorem sRunAction_yes (s : List Ent) (x : Actn) (v : Value) (w : World) (h : SL (RF Ent.enc) 2 w v s) (hok : entsOk 1 s = true) (hx : x.ok = true) :
    Calls Try.prog 76 #[v, .agg #[.int .i64 x.kind, .int .i64 x.src, .int .i64 x.dst, .int .i64 x.amt]] w fun e w' => ∃ vr vw, e = .returned (.agg #[.bool (runE x (atK s x.src) (atK s x.dst)).d, vr, vw]) ∧ Up w w' ∧
      Own Ent.enc 31 2 w.heap.size w' vr (runE x (atK s x.src) (atK s x.dst)).r ∧ Own Ent.enc 31 2 w.heap.size w' vw (runE x (atK s x.src) (atK s x.dst)).w ∧ Apart vr vw := by
  have H := Lib.hid h
  obtain ⟨p, c, rfl, _, _⟩ := h.openc
  have kv := fun w (h : SL (RF Ent.enc) 2 w (.slice p s.length c) s) => sStoreValid_any s _ w h
  simp only [hok] at kv
  have ka := fun w => sActionValid_any x w
  simp only [hx] at ka
  obtain ⟨f0, f1⟩ := atK_in hok (by decide) x.src
  obtain ⟨t0, t1⟩ := atK_in hok (by decide) x.dst
  clear h
  generalize hE : runE x (atK s x.src) (atK s x.dst) = E
  have kr := fun w => l6Run_any x (atK s x.src) (atK s x.dst) w hx f0 f1 t0 t1
  simp only [hE] at kr
  clear hE hx hok
  go_enter Try.func76, Try.ntmps76
  go_wp2_with (first | (go_at_call 26; refine (kv _ (H.out.up (by repeat (first | (with_reducible exact Ext.refl _) | (with_reducible refine Ext.up ?_ _) | (with_reducible refine Ext.alloc ?_ _) | (with_reducible refine Ext.drew ?_) | (with_reducible refine Ext.setRow ?_ (by first | exact LeS.le | exact LeS.add _ | (simp; done) | (simp; omega)) _) | (with_reducible refine Ext.setCell ?_ (by first | exact LeS.le | exact LeS.add _ | (simp; done) | (simp; omega)) _))))).mono ?_; rintro e w' ⟨rfl, z1, rfl⟩) | (go_at_call 17; refine (ka _).mono ?_; rintro e w' ⟨rfl, z2, rfl⟩))
  have hsz : w.heap.size + 1 + 1 ≤ z2.val.heap.size := by have h1 := z1.ext.size; have h2 := z2.ext.size; simp at h1 h2; omega
  (go_region_held3 (fun w' => (∀ n i, ∀ [LtS n (w.alloc (.cells #[.int .i64 x.kind, .int .i64 x.src, .int .i64 x.dst, .int .i64 x.amt] 24))], w'.cell? ⟨n, i, none⟩ = World.cell? (w.alloc (.cells #[.int .i64 x.kind, .int .i64 x.src, .int .i64 x.dst, .int .i64 x.amt] 24)) ⟨n, i, none⟩) ∧ Ext (w.alloc (.cells #[.int .i64 x.kind, .int .i64 x.src, .int .i64 x.dst, .int .i64 x.amt] 24)) w') ((refine S_of_ext ?_; (repeat (first | exact Ext.refl _ | refine Ext.up ?_ _ | refine Ext.alloc ?_ _ | refine Ext.drew ?_ | refine Ext.setRow ?_ (by first | (dsimp only; omega) | exact LeS.le | exact LeS.add _ | (simp; done) | (simp; omega)) _ | refine Ext.setCell ?_ (by first | (dsimp only; omega) | exact LeS.le | exact LeS.add _ | (simp; done) | (simp; omega)) _)); done)) (first | (go_at_call 139; refine (l2At_any s _ _ _ (H.out.up (by repeat (first | (with_reducible exact Ext.refl _) | (with_reducible refine Ext.up ?_ _) | (with_reducible refine Ext.alloc ?_ _) | (with_reducible refine Ext.drew ?_) | (with_reducible refine Ext.setRow ?_ (by first | exact LeS.le | exact LeS.add _ | (simp; done) | (simp; omega)) _) | (with_reducible refine Ext.setCell ?_ (by first | exact LeS.le | exact LeS.add _ | (simp; done) | (simp; omega)) _))))).mono ?_; rintro e w' ⟨rfl, rfl⟩) | ((go_at_call 138; refine (kr _).mono ?_; rintro e w' ⟨vr, vw, rfl, ⟨z6, rfl⟩, o1, o2, ap⟩); obtain ⟨p1, c1, rfl, _, _⟩ := (o1.sl Ent.enc_length).openc; obtain ⟨p2, c2, rfl, _, _⟩ := (o2.sl Ent.enc_length).openc)))
  all_goals
    have O1 := Lib.hid o1; have O2 := Lib.hid o2; have AP := Lib.hid ap
    clear o1 o2 ap
    go_wp2_with fail
    refine bodyPost_ret (v := .agg #[.bool E.d, .slice p1 E.r.length c1, .slice p2 E.w.length c2]) (by simp [results, Try.results76, go_sem]) rfl ?_
    refine ⟨_, _, rfl, (.of (by repeat (first | (with_reducible exact Ext.refl _) | (with_reducible refine Ext.up ?_ _) | (with_reducible refine Ext.alloc ?_ _) | (with_reducible refine Ext.drew ?_) | (with_reducible refine Ext.setRow ?_ (by first | exact LeS.le | exact LeS.add _ | (simp; done) | (simp; omega)) _) | (with_reducible refine Ext.setCell ?_ (by first | exact LeS.le | exact LeS.add _ | (simp; done) | (simp; omega)) _)))), ?_, ?_, AP.out⟩
    · refine Own.lo (lo := z2.val.heap.size) ?_ (by omega)
      (repeat (first | (with_reducible exact O1.out) | (exact O1.out) | (with_reducible refine Own.setLo ?_ (by omega)) | (with_reducible refine Own.alloc ?_)))
    · refine Own.lo (lo := z2.val.heap.size) ?_ (by omega)
      (repeat (first | (with_reducible exact O2.out) | (exact O2.out) | (with_reducible refine Own.setLo ?_ (by omega)) | (with_reducible refine Own.alloc ?_)))
end Go.Proofs.Ytkboefmkfpnpjaa
namespace Go.Proofs.Ytkboefmkfpnpjaa
open Go Go.RowKit Go.Proofs

theorem runE_rlen (x : Actn) (f t : Int) : (runE x f t).r.length ≤ 2 := by
  show (x.rds f t).length ≤ 2
  rw [rds_len]; exact Actn.rk_le x
theorem runAll_len (v : List Int) (l : List Actn) : (runAll v l).2.length = l.length := by
  have key : ∀ (l : List Actn) (p : List Int × List Eff), (l.foldl runStep p).2.length = p.2.length + l.length := by
    intro l
    induction l with
    | nil => intro p; simp
    | cons x l ih => intro p; rw [List.foldl_cons, ih]; simp [runStep]; omega
  simpa [runAll] using key l (v, [])
theorem runE_wlen (x : Actn) (f t : Int) : (runE x f t).w.length ≤ 2 := by
  unfold runE
  dsimp only
  split
  · unfold Actn.wrs sort2
    repeat' split
    all_goals simp
  · simp
theorem runAll_small (v : List Int) (l : List Actn) : ∀ x ∈ (runAll v l).2, x.r.length ≤ 1000 ∧ x.w.length ≤ 1000 := by
  have key : ∀ (l : List Actn) (p : List Int × List Eff), (∀ x ∈ p.2, x.r.length ≤ 1000 ∧ x.w.length ≤ 1000) → ∀ x ∈ (l.foldl runStep p).2, x.r.length ≤ 1000 ∧ x.w.length ≤ 1000 := by
    intro l
    induction l with
    | nil => intro p h; exact h
    | cons y l ih =>
      intro p h
      refine ih _ fun x hx => ?_
      rcases List.mem_append.1 (show x ∈ p.2 ++ [runV p.1 y] from hx) with hx | hx
      · exact h x hx
      · rw [List.mem_singleton] at hx; subst hx
        have h1 := runE_rlen y (p.1.getD y.src.toNat 0) (p.1.getD y.dst.toNat 0)
        have h2 := runE_wlen y (p.1.getD y.src.toNat 0) (p.1.getD y.dst.toNat 0)
        exact ⟨Nat.le_trans h1 (by omega), Nat.le_trans h2 (by omega)⟩
  exact key l (v, []) (by simp)
set_option maxRecDepth 100000 in
set_option maxHeartbeats 2000000 in
theorem sRunSerial_yes (s : List Ent) (l : List Actn) (v vl : Value) (w : World) (h : SL (RF Ent.enc) 2 w v s) (hl : SL (RF Actn.enc) 4 w vl l) (hok : entsOk 1 s = true) (hlk : actsOk l = true) :
    Calls Try.prog 35 #[v, vl] w fun e w' => ∃ v1 v2 ts, e = .returned (.tuple #[v1, v2]) ∧ Up w w' ∧ Own Ent.enc 31 2 w.heap.size w' v1 (storeOf (runAll (valsOf s) l).1) ∧
      OE 40 31 w.heap.size w' v2 ts ∧ ts.map TE.core = (runAll (valsOf s) l).2 ∧ Apart v1 v2 := by
  have H := Lib.hid h; have HL := Lib.hid hl
  obtain ⟨p, c, rfl, _, _⟩ := h.openc
  obtain ⟨p3, c3, rfl, hll, hcl⟩ := hl.open
  have hls := entsOk_len hok
  have kv := fun w (h : SL (RF Ent.enc) 2 w (.slice p s.length c) s) => sStoreValid_any s _ w h
  simp only [hok] at kv
  have kw := fun w (h : SL (RF Actn.enc) 4 w (.slice p3 l.length c3) l) => sActionsValid_any l _ w h
  simp only [hlk] at kw
  have hvi : valsIn (valsOf s) := valsOf_in (entsOk_least (by decide) hok)
  have hlen := actsOk_len hlk
  have Hok := Lib.hid hok; have Hlk := Lib.hid hlk; have Hvi := Lib.hid hvi
  clear h hl hok hlk hvi
  go_enter Try.func35, Try.ntmps35
  go_wp2_with (first | (go_at_call 26; refine (kv _ (H.out.up (by repeat (first | (with_reducible exact Ext.refl _) | (with_reducible refine Ext.up ?_ _) | (with_reducible refine Ext.alloc ?_ _) | (with_reducible refine Ext.drew ?_) | (with_reducible refine Ext.setRow ?_ (by first | exact LeS.le | exact LeS.add _ | (simp; done) | (simp; omega)) _) | (with_reducible refine Ext.setCell ?_ (by first | exact LeS.le | exact LeS.add _ | (simp; done) | (simp; omega)) _))))).mono ?_; rintro e w' ⟨rfl, z1, rfl⟩) | (go_at_call 36; refine (kw _ (HL.out.up (by repeat (first | (with_reducible exact Ext.refl _) | (with_reducible refine Ext.up ?_ _) | (with_reducible refine Ext.alloc ?_ _) | (with_reducible refine Ext.drew ?_) | (with_reducible refine Ext.setRow ?_ (by first | exact LeS.le | exact LeS.add _ | (simp; done) | (simp; omega)) _) | (with_reducible refine Ext.setCell ?_ (by first | exact LeS.le | exact LeS.add _ | (simp; done) | (simp; omega)) _))))).mono ?_; rintro e w' ⟨rfl, z2, rfl⟩) | (at_builtin; refine wpList_catA fEnt rfl (.tmp 21) (.tmp 22) rfl Ent.enc Ent.enc_length w (lo := w.heap.size + 1) s [] rfl (Own.lit rfl (by have h1 := z1.ext.size; have h2 := z2.ext.size; simp at h1 h2 ⊢; omega) rfl rfl Ent.enc_length (by simp)) (by repeat (first | (with_reducible exact Ext.refl _) | (with_reducible refine Ext.up ?_ _) | (with_reducible refine Ext.alloc ?_ _) | (with_reducible refine Ext.drew ?_) | (with_reducible refine Ext.setRow ?_ (by first | exact LeS.le | exact LeS.add _ | (simp; done) | (simp; omega)) _) | (with_reducible refine Ext.setCell ?_ (by first | exact LeS.le | exact LeS.add _ | (simp; done) | (simp; omega)) _))) (Nat.le_succ _) (by have h1 := z1.ext.size; have h2 := z2.ext.size; simp at h1 h2 ⊢; omega) rfl (H.out.up (by repeat (first | (with_reducible exact Ext.refl _) | (with_reducible refine Ext.up ?_ _) | (with_reducible refine Ext.alloc ?_ _) | (with_reducible refine Ext.drew ?_) | (with_reducible refine Ext.setRow ?_ (by first | exact LeS.le | exact LeS.add _ | (simp; done) | (simp; omega)) _) | (with_reducible refine Ext.setCell ?_ (by first | exact LeS.le | exact LeS.add _ | (simp; done) | (simp; omega)) _)))) (oneEs' _) (by simp; omega) (by simp; omega) ?_; intro v1 z3 o1 g1 b1; clear b1))
  have o0 : Own TE.enc 40 3 w.heap.size (w.alloc (.cells #[] 40)) (.slice (some ⟨w.heap.size, 0, none⟩) 0 0) [] := Own.lit rfl (Nat.le_refl _) rfl rfl TE.enc_length (by simp)
  have a0 : Apart v1 (.slice (some ⟨w.heap.size, 0, none⟩) 0 0) := (Apart.of_lt o0 o1 (by simp)).symm
  have O1 := Lib.hid o1
  have hE0 : Ext (w.alloc (.cells #[] 40)) z3.val := by
    refine Ext.grown (a := w.alloc (.cells #[] 40)) (b := z2.val.alloc (.cells #[] 31)) (by repeat (first | (with_reducible exact Ext.refl _) | (with_reducible refine Ext.up ?_ _) | (with_reducible refine Ext.alloc ?_ _) | (with_reducible refine Ext.drew ?_) | (with_reducible refine Ext.setRow ?_ (by first | exact LeS.le | exact LeS.add _ | (simp; done) | (simp; omega)) _) | (with_reducible refine Ext.setCell ?_ (by first | exact LeS.le | exact LeS.add _ | (simp; done) | (simp; omega)) _))) g1 (fun k hk => ?_)
    change (Value.slice (some ⟨z2.val.heap.size, 0, none⟩) 0 0).ownBlock = some k at hk
    have h1 := z1.ext.size; have h2 := z2.ext.size
    simp [Value.ownBlock] at hk h1 h2 ⊢; omega
  have O0 := Lib.hid (o0.up hE0)
  clear o1 o0 g1
  go_loopw [6, 7, 8] (fun s6 s7 s8 wr => ∃ (k : Nat) (ts : List TE), s8 = .int .i64 k ∧ k ≤ l.length ∧ Up w wr ∧ Own Ent.enc 31 2 w.heap.size wr s7 (storeOf (runAll (valsOf s) (l.take k)).1) ∧ OE 40 31 w.heap.size wr s6 ts ∧ ts.map TE.core = (runAll (valsOf s) (l.take k)).2 ∧ Apart s7 s6) (fun _ _ s8 _ => l.length - (intOf s8).toNat)
  case atStart => exact ⟨0, [], rfl, Nat.zero_le _, ⟨z3, rfl⟩, by rw [show (runAll (valsOf s) (l.take 0)).1 = valsOf s from rfl, storeOf_valsOf Hok.out]; exact O1.out.lo (Nat.le_succ _), ⟨O0.out, by simp⟩, rfl, a0⟩
  case round =>
    obtain ⟨k, ts, rfl, hk, ⟨z, rfl⟩, hown, hoe, hts, hap⟩ := hrel
    have hlt10 : (runAll (valsOf s) (l.take k)).2.length ≤ 10 := by rw [runAll_len, List.length_take]; omega
    have htl : ts.length ≤ 10 := by rw [← List.length_map (f := TE.core), hts]; exact hlt10
    have Hown := Lib.hid hown; have Hoe := Lib.hid hoe; have Hts := Lib.hid hts; have Hap := Lib.hid hap
    clear hown hoe hts hap hlt10
    by_cases hlt : k < l.length
    · obtain ⟨x, hxk⟩ := getElem?_some_of_lt hlt
      obtain ⟨g, off, hp, hb, _⟩ := hcl k x hxk
      obtain ⟨c0, c1, c2, c3⟩ := acell hcl hp hxk
      subst hp
      have k0 : (0 : Int) ≤ (k : Int) := by omega
      have k1 : (k : Int) < l.length := by omega
      have hxo := actsOk_at Hlk.out hxk
      have hVi : valsIn (runAll (valsOf s) (l.take k)).1 := runAll_in Hvi.out fun y hy => by obtain ⟨i, hi⟩ := List.getElem?_of_mem (List.mem_of_mem_take hy); exact actsOk_at Hlk.out hi
      have Hsn := Lib.hid (runAll_snoc (valsOf s) hxk)
      generalize hR : runAll (valsOf s) (l.take k) = R at *
      have kr := fun v w h => sRunAction_yes (storeOf R.1) x v w h (storeOf_ok hVi) hxo
      simp only [runE_store hVi hxo] at kr
      have ha := fun vr vw v w hs hu hr => sApplyEffect_yes (storeOf R.1) (runV R.1 x).w (runV R.1 x).d v vr vw w hs hu hr (storeOf_ok hVi) (runV_ok hVi hxo)
      rw [putAll_store hVi (fun e he => by have := entsOk_mem (runV_ok hVi hxo) he; omega)] at ha
      clear hcl hxk hVi hxo hR
      generalize hE : runV R.1 x = E at *
      have HE := Lib.hid hE; clear hE
      go_wp2_with (first | ((go_at_call 76; refine (kr _ _ ((Hown.out.sl Ent.enc_length).up (by repeat (first | (with_reducible exact Ext.refl _) | (with_reducible refine Ext.up ?_ _) | (with_reducible refine Ext.alloc ?_ _) | (with_reducible refine Ext.drew ?_) | (with_reducible refine Ext.setRow ?_ (by first | exact LeS.le | exact LeS.add _ | (simp; done) | (simp; omega)) _) | (with_reducible refine Ext.setCell ?_ (by first | exact LeS.le | exact LeS.add _ | (simp; done) | (simp; omega)) _))))).mono ?_; rintro e w' ⟨vr, vw, rfl, ⟨z4, rfl⟩, q1, q2, ap⟩); obtain ⟨p1, cc1, rfl, _, _⟩ := (q1.sl Ent.enc_length).openc; obtain ⟨p2, cc2, rfl, _, _⟩ := (q2.sl Ent.enc_length).openc; have Q1 := Lib.hid q1; have Q2 := Lib.hid q2; clear q1 q2 ap) | (go_at_call 77; refine (ha _ _ _ _ ((Hown.out.sl Ent.enc_length).up (by repeat (first | (with_reducible exact Ext.refl _) | (with_reducible refine Ext.up ?_ _) | (with_reducible refine Ext.alloc ?_ _) | (with_reducible refine Ext.drew ?_) | (with_reducible refine Ext.setRow ?_ (by first | exact LeS.le | exact LeS.add _ | (simp; done) | (simp; omega)) _) | (with_reducible refine Ext.setCell ?_ (by first | exact LeS.le | exact LeS.add _ | (simp; done) | (simp; omega)) _)))) ((Q2.out.sl Ent.enc_length).up (by repeat (first | (with_reducible exact Ext.refl _) | (with_reducible refine Ext.up ?_ _) | (with_reducible refine Ext.alloc ?_ _) | (with_reducible refine Ext.drew ?_) | (with_reducible refine Ext.setRow ?_ (by first | exact LeS.le | exact LeS.add _ | (simp; done) | (simp; omega)) _) | (with_reducible refine Ext.setCell ?_ (by first | exact LeS.le | exact LeS.add _ | (simp; done) | (simp; omega)) _)))) ⟨_, _, _, rfl⟩).mono ?_; rintro e w' ⟨v8, rfl, ⟨z5, rfl⟩, o8⟩) | (at_builtin; refine wpList_pushG fEff rfl (.tmp 39) (.tmp 41) rfl TE.enc TE.enc_length w (lo := w.heap.size) [⟨E.d, .slice p1 E.r.length cc1, .slice p2 E.w.length cc2, E.r, E.w⟩] ts rfl (Hoe.out.1.up (by repeat (first | (with_reducible exact Ext.refl _) | (with_reducible refine Ext.up ?_ _) | (with_reducible refine Ext.alloc ?_ _) | (with_reducible refine Ext.drew ?_) | (with_reducible refine Ext.setRow ?_ (by first | exact LeS.le | exact LeS.add _ | (simp; done) | (simp; omega)) _) | (with_reducible refine Ext.setCell ?_ (by first | exact LeS.le | exact LeS.add _ | (simp; done) | (simp; omega)) _)))) (by repeat (first | (with_reducible exact Ext.refl _) | (with_reducible refine Ext.up ?_ _) | (with_reducible refine Ext.alloc ?_ _) | (with_reducible refine Ext.drew ?_) | (with_reducible refine Ext.setRow ?_ (by first | exact LeS.le | exact LeS.add _ | (simp; done) | (simp; omega)) _) | (with_reducible refine Ext.setCell ?_ (by first | exact LeS.le | exact LeS.add _ | (simp; done) | (simp; omega)) _))) (Nat.le_refl _) LeS.le rfl rfl (by go_simp) rfl (oneTE _ (by intro y hy; simp at hy; subst hy; exact ⟨⟨_, _, _, rfl⟩, ⟨_, _, _, rfl⟩⟩)) (by simp; omega) (by simp; omega) ?_; intro v7 z7 o7 g7 b7))
      have A8 := Lib.hid (Apart.of_lt Hoe.out.1 o8 (by have := z4.ext.size; simp [setCell_sz]; omega)).symm
      have A1 := Lib.hid (Apart.of_lt Hoe.out.1 Q1.out (by simp)).symm
      have A2 := Lib.hid (Apart.of_lt Hoe.out.1 Q2.out (by simp)).symm
      have hzw := z.ext.size
      have hz4 := z4.ext.size
      have K8 := Own.up o8 (w' := _) (show Ext _ _ from (Ext.refl _).alloc (.cells #[.bool E.d, .slice p1 E.r.length cc1, .slice p2 E.w.length cc2] 40))
      have F8 := Lib.hid (K8.keep g7 A8.out)
      have B8 := Lib.hid (Apart.grown K8 A8.out (Nat.le_refl _) b7)
      have OE7 := Lib.hid (OE.snoc (Hoe.out.up (by repeat (first | (with_reducible exact Ext.refl _) | (with_reducible refine Ext.up ?_ _) | (with_reducible refine Ext.alloc ?_ _) | (with_reducible refine Ext.drew ?_) | (with_reducible refine Ext.setRow ?_ (by first | exact LeS.le | exact LeS.add _ | (simp; done) | (simp; omega)) _) | (with_reducible refine Ext.setCell ?_ (by first | exact LeS.le | exact LeS.add _ | (simp; done) | (simp; omega)) _)))) g7 b7 o7 ((Q1.out.up (by repeat (first | (with_reducible exact Ext.refl _) | (with_reducible refine Ext.up ?_ _) | (with_reducible refine Ext.alloc ?_ _) | (with_reducible refine Ext.drew ?_) | (with_reducible refine Ext.setRow ?_ (by first | exact LeS.le | exact LeS.add _ | (simp; done) | (simp; omega)) _) | (with_reducible refine Ext.setCell ?_ (by first | exact LeS.le | exact LeS.add _ | (simp; done) | (simp; omega)) _)))).lo (by first | omega | (simp; omega))) A1.out ((Q2.out.up (by repeat (first | (with_reducible exact Ext.refl _) | (with_reducible refine Ext.up ?_ _) | (with_reducible refine Ext.alloc ?_ _) | (with_reducible refine Ext.drew ?_) | (with_reducible refine Ext.setRow ?_ (by first | exact LeS.le | exact LeS.add _ | (simp; done) | (simp; omega)) _) | (with_reducible refine Ext.setCell ?_ (by first | exact LeS.le | exact LeS.add _ | (simp; done) | (simp; omega)) _)))).lo (by first | omega | (simp; omega))) A2.out)
      clear o8 o7 g7 b7 K8
      go_wp2_with fail
      go_roundw
      case rel =>
        refine ⟨k + 1, _, by go_num, by omega, ⟨z7, rfl⟩, ?_, OE7.out, ?_, B8.out⟩
        · rw [Hsn.out]
          show Own Ent.enc 31 2 w.heap.size z7.val v8 (storeOf (vsets R.1 (runV R.1 x).w))
          rw [HE.out]
          exact F8.out.lo (by simp [setCell_sz]; omega)
        · rw [Hsn.out]
          show _ = R.2 ++ [runV R.1 x]
          rw [HE.out, List.map_append, Hts.out]; rfl
      case measure => simp [intOf]; omega
    · obtain rfl : k = l.length := by omega
      rw [List.take_length] at Hown Hts
      clear hcl
      go_wp2_with fail
      refine bodyPost_ret (v := .tuple #[u7, u6]) (by simp [results, Try.results35, go_sem]) rfl ?_
      exact ⟨_, _, ts, rfl, ⟨z, rfl⟩, Hown.out, Hoe.out, Hts.out, Hap.out⟩
end Go.Proofs.Ytkboefmkfpnpjaa
namespace Go.Proofs.Ytkboefmkfpnpjaa
open Go Go.RowKit Go.Proofs

theorem runV_congr {x : Actn} (hx : x.ok = true) {v v' : List Int} (h : ∀ k ∈ x.rk, v.getD k.toNat 0 = v'.getD k.toNat 0) : runV v x = runV v' x := by
  obtain ⟨kd, a, b, m⟩ := x
  simp only [Actn.ok, Bool.and_eq_true] at hx
  have hko := hx.2.2.2
  unfold kindOk at hko
  unfold runV
  dsimp only
  unfold Actn.rk at h
  dsimp only at h hko
  by_cases hab : a = b
  · subst hab
    by_cases h1 : kd = 1
    · subst h1; simp [runE, Actn.don, Actn.rds, Actn.rk, Actn.wrs]
    · have e : v.getD a.toNat 0 = v'.getD a.toNat 0 := h a (by rw [if_neg h1]; simp)
      rw [e]
  · rcases kinds kd with rfl | rfl | rfl | rfl | rfl | rfl | ⟨n1, n2, n3, n4, n5, n6⟩
    · simp [runE, Actn.don, Actn.rds, Actn.rk, Actn.wrs]
    · have e1 := h a (by simp [hab]); have e2 := h b (by simp [hab]); rw [e1, e2]
    · have e1 := h a (by simp); rw [e1]; simp [runE, Actn.don, Actn.rds, Actn.rk, Actn.wrs]
    · have e1 := h a (by simp [hab]); have e2 := h b (by simp [hab]); rw [e1, e2]
    · have e1 := h a (by simp [hab]); have e2 := h b (by simp [hab]); rw [e1, e2]
    · have e1 := h a (by simp); rw [e1]; simp [runE, Actn.don, Actn.rds, Actn.rk, Actn.wrs]
    · exfalso; rw [if_neg (by omega), if_neg (by omega), decide_eq_true_eq] at hko; omega
theorem vsets_cons (v : List Int) (e : Ent) (l : List Ent) : vsets v (e :: l) = vsets (vset v e) l := rfl
theorem vsets_getD : ∀ (l : List Ent) (v : List Int) (k : Int), 0 ≤ k → (∀ e ∈ l, 0 ≤ e.k ∧ e.k ≠ k) → (vsets v l).getD k.toNat 0 = v.getD k.toNat 0
  | [], _, _, _, _ => rfl
  | e :: l, v, k, k0, h => by
    have h1 := h e (by simp)
    rw [vsets_cons, vsets_getD l _ k k0 fun x hx => h x (by simp [hx])]
    unfold vset
    simp only [List.getD_eq_getElem?_getD]
    rw [List.getElem?_set_ne (by omega)]
theorem vset_vsets : ∀ (l : List Ent) (v : List Int) (e : Ent), 0 ≤ e.k → (∀ x ∈ l, 0 ≤ x.k ∧ x.k ≠ e.k) → vsets (vset v e) l = vset (vsets v l) e
  | [], _, _, _, _ => rfl
  | x :: l, v, e, e0, h => by
    have h1 := h x (by simp)
    rw [vsets_cons, vsets_cons]
    have : vset (vset v e) x = vset (vset v x) e := by unfold vset; rw [List.set_comm _ _ (by omega)]
    rw [this, vset_vsets l _ e e0 fun y hy => h y (by simp [hy])]
theorem vsets_comm : ∀ (a b : List Ent) (v : List Int), (∀ x ∈ a, 0 ≤ x.k) → (∀ y ∈ b, 0 ≤ y.k) → (∀ x ∈ a, ∀ y ∈ b, x.k ≠ y.k) → vsets (vsets v a) b = vsets (vsets v b) a
  | [], _, _, _, _, _ => rfl
  | e :: a, b, v, ha, hb, h => by
    rw [vsets_cons, vsets_comm a b _ (fun x hx => ha x (by simp [hx])) hb (fun x hx => h x (by simp [hx])), vset_vsets b v e (ha e (by simp)) fun y hy => ⟨hb y hy, fun e' => h e (by simp) y hy e'.symm⟩]
    rfl
theorem runV_keys {x : Actn} (hx : x.ok = true) (v : List Int) : ∀ e ∈ (runV v x).w, e.k ∈ x.wk := by
  intro e he
  have hk := wrs_keys hx (v.getD x.src.toNat 0) (v.getD x.dst.toNat 0)
  unfold runV runE at he
  dsimp only at he
  split at he
  · rw [← hk]; exact List.mem_map.2 ⟨e, he, rfl⟩
  · cases he
theorem not_common {a b : List Int} (h : common a b = false) {k : Int} (ha : k ∈ a) (hb : k ∈ b) : False := by
  have : common a b = true := by
    simp only [common, List.any_eq_true, List.contains_iff_mem]
    exact ⟨k, ha, hb⟩
  rw [this] at h; cases h
theorem conf_parts {x y : Actn} (h : conf x y = false) : common x.wk y.wk = false ∧ common x.wk y.rk = false ∧ common x.rk y.wk = false := by
  simp only [conf, Bool.or_eq_false_iff] at h
  exact ⟨h.1, h.2.1, h.2.2⟩
/-- What an action does behind another with which it is not in conflict. -/
theorem runV_after {x y : Actn} (hx : x.ok = true) (hy : y.ok = true) (h : common x.rk y.wk = false) (v u : List Int) : runV (vsets v (runV u y).w) x = runV v x := by
  refine runV_congr hx fun k hk => ?_
  refine vsets_getD _ _ _ (Actn.rk_in hx k hk).1 fun e he => ?_
  have hm := runV_keys hy u e he
  exact ⟨(Actn.wk_in hy _ hm).1, fun e' => not_common h hk (e' ▸ hm)⟩
theorem common_symm (a b : List Int) : common a b = common b a := by
  rw [Bool.eq_iff_iff]
  simp only [common, List.any_eq_true, List.contains_iff_mem]
  constructor
  · rintro ⟨k, h1, h2⟩; exact ⟨k, h2, h1⟩
  · rintro ⟨k, h1, h2⟩; exact ⟨k, h2, h1⟩
theorem step_comm {x y : Actn} (hx : x.ok = true) (hy : y.ok = true) (h : conf x y = false) (v : List Int) :
    runV (vsets v (runV v x).w) y = runV v y ∧ runV (vsets v (runV v y).w) x = runV v x ∧ vsets (vsets v (runV v x).w) (runV v y).w = vsets (vsets v (runV v y).w) (runV v x).w := by
  obtain ⟨h1, h2, h3⟩ := conf_parts h
  refine ⟨runV_after hy hx (by rw [common_symm]; exact h2) v v, runV_after hx hy h3 v v, vsets_comm _ _ _ ?_ ?_ ?_⟩
  · intro e he; exact (Actn.wk_in hx _ (runV_keys hx v e he)).1
  · intro e he; exact (Actn.wk_in hy _ (runV_keys hy v e he)).1
  · intro e he e' he' ek
    exact not_common h1 (runV_keys hx v e he) (ek ▸ runV_keys hy v e' he')
theorem foldl_run : ∀ (l : List Actn) (v : List Int) (es : List Eff), l.foldl runStep (v, es) = ((runAll v l).1, es ++ (runAll v l).2)
  | [], v, es => by simp [runAll]
  | x :: l, v, es => by
    unfold runAll
    rw [List.foldl_cons, List.foldl_cons]
    show l.foldl runStep (vsets v (runV v x).w, es ++ [runV v x]) = _
    rw [foldl_run l]
    show _ = ((l.foldl runStep (vsets v (runV v x).w, [] ++ [runV v x])).1, es ++ (l.foldl runStep (vsets v (runV v x).w, [] ++ [runV v x])).2)
    rw [foldl_run l]
    simp
theorem runAll_cons (v : List Int) (x : Actn) (l : List Actn) : runAll v (x :: l) = ((runAll (vsets v (runV v x).w) l).1, runV v x :: (runAll (vsets v (runV v x).w) l).2) := by
  have := foldl_run l (vsets v (runV v x).w) [runV v x]
  unfold runAll
  rw [List.foldl_cons]
  show l.foldl runStep (vsets v (runV v x).w, [] ++ [runV v x]) = _
  rw [List.nil_append, this]; rfl
/-- An action that is not in conflict with those behind it may stand at their end. -/
theorem run_move {x : Actn} (hx : x.ok = true) : ∀ (B : List Actn) (v : List Int), (∀ y ∈ B, y.ok = true ∧ conf x y = false) →
    (runAll (vsets v (runV v x).w) B).2 = (runAll v B).2 ∧ runV (runAll v B).1 x = runV v x ∧ (runAll (vsets v (runV v x).w) B).1 = vsets (runAll v B).1 (runV v x).w
  | [], v, _ => ⟨rfl, rfl, rfl⟩
  | y :: B, v, h => by
    obtain ⟨hy, hc⟩ := h y (by simp)
    obtain ⟨s1, s2, s3⟩ := step_comm hx hy hc v
    obtain ⟨i1, i2, i3⟩ := run_move hx B (vsets v (runV v y).w) fun z hz => h z (by simp [hz])
    rw [s2] at i1 i2 i3
    rw [runAll_cons, runAll_cons, s1, s3]
    exact ⟨by rw [i1], i2, i3⟩
/-- Two that are not in conflict, in both orders. -/
theorem run_two {x y : Actn} (hx : x.ok = true) (hy : y.ok = true) (h : conf x y = false) (v : List Int) :
    (runAll v [x, y]).1 = (runAll v [y, x]).1 ∧ (runAll v [x, y]).2 = [runV v x, runV v y] ∧ (runAll v [y, x]).2 = [runV v y, runV v x] := by
  obtain ⟨s1, s2, s3⟩ := step_comm hx hy h v
  refine ⟨?_, ?_, ?_⟩
  · simp only [runAll_cons, s1, s2, s3]
  · simp only [runAll_cons, s1]; rfl
  · simp only [runAll_cons, s2]; rfl
end Go.Proofs.Ytkboefmkfpnpjaa
namespace Go.Proofs.Ytkboefmkfpnpjaa
open Go Go.RowKit Go.Proofs

theorem runAll_app (v : List Int) (P Q : List Actn) : runAll v (P ++ Q) = ((runAll (runAll v P).1 Q).1, (runAll v P).2 ++ (runAll (runAll v P).1 Q).2) := by
  have h1 : runAll v (P ++ Q) = Q.foldl runStep (runAll v P) := by unfold runAll; rw [List.foldl_append]
  rw [h1]
  exact foldl_run Q (runAll v P).1 (runAll v P).2
theorem runAll_at (v : List Int) {l : List Actn} {k : Nat} {x : Actn} (h : l[k]? = some x) : (runAll v l).2[k]? = some (runV (runAll v (l.take k)).1 x) := by
  obtain ⟨h1, h2⟩ := List.getElem?_eq_some_iff.1 h
  have hs : l.take k ++ x :: l.drop (k + 1) = l := by rw [← h2, ← List.drop_eq_getElem_cons h1, List.take_append_drop]
  have key : ∀ P Q : List Actn, P.length = k → (runAll v (P ++ x :: Q)).2[k]? = some (runV (runAll v P).1 x) := by
    intro P Q hP
    rw [runAll_app, runAll_cons]
    have hl : (runAll v P).2.length = k := by rw [runAll_len, hP]
    rw [List.getElem?_append_right (by omega), hl, Nat.sub_self]
    rfl
  have := key (l.take k) (l.drop (k + 1)) (by rw [List.length_take]; omega)
  rwa [hs] at this
/-- The versions of the first k effects. -/
def versE (E : List Eff) : Nat → List Ver
  | 0 => []
  | k + 1 => putV (versE E k) k (match E[k]? with | some e => e.w | none => [])
theorem versE_next {E : List Eff} {k : Nat} {e : Eff} (h : E[k]? = some e) : versE E (k + 1) = putV (versE E k) k e.w := by rw [versE, h]
theorem versE_by (E : List Eff) : ∀ (k : Nat), ∀ x ∈ versE E k, 0 ≤ x.b ∧ x.b < k
  | 0, x, h => by cases h
  | k + 1, x, h => by
    rw [versE] at h
    generalize (match E[k]? with | some e => e.w | none => []) = u at h
    have := (putTo_perm (k : Int) u _).mem_iff.1 h
    rcases List.mem_append.1 this with h | h
    · have := versE_by E k x (dropV_ne h).1; omega
    · obtain ⟨e, _, rfl⟩ := List.mem_map.1 h
      show 0 ≤ (k : Int) ∧ (k : Int) < _
      omega
theorem versE_drop (E : List Eff) (k : Nat) : dropV (versE E k) k = versE E k := by
  unfold dropV
  rw [List.filter_eq_self]
  intro x hx
  have := versE_by E k x hx
  simp; omega
theorem versE_to (E : List Eff) (k : Nat) : versE E (k + 1) = putTo k (versE E k) (match E[k]? with | some e => e.w | none => []) := by
  rw [versE, putV, versE_drop]
theorem okW_at {E : List Eff} (h : ∀ e ∈ E, entsOk 0 e.w = true) (k : Nat) : entsOk 0 (match E[k]? with | some e => e.w | none => []) = true := by
  cases hk : E[k]? with
  | none => rfl
  | some e => exact h e (List.mem_of_getElem? hk)
theorem versE_ok {E : List Eff} (h : ∀ e ∈ E, entsOk 0 e.w = true) : ∀ k, k ≤ 10 → versOk (versE E k) = true
  | 0, _ => rfl
  | k + 1, hk => by
    rw [versE]
    refine putV_ok ?_
    simp only [putOk, versE_ok h k (by omega), okW_at h k, Bool.true_and, Bool.and_true, inR_iff]
    omega
theorem versE_putOk {E : List Eff} (h : ∀ e ∈ E, entsOk 0 e.w = true) {k : Nat} {e : Eff} (hk : k < 10) (he : E[k]? = some e) : putOk (versE E k) k e.w = true := by
  simp only [putOk, versE_ok h k (by omega), h e (List.mem_of_getElem? he), Bool.true_and, Bool.and_true, inR_iff]
  omega
theorem versE_len {E : List Eff} (h : ∀ e ∈ E, entsOk 0 e.w = true) : ∀ k, (versE E k).length ≤ 32 * k
  | 0 => by simp [versE]
  | k + 1 => by
    rw [versE]
    have h1 := putV_le (versE E k) k (match E[k]? with | some e => e.w | none => [])
    have h2 := entsOk_len (okW_at h k)
    have h3 := versE_len h k
    omega
theorem readV_ins_no {base key b : Int} {x : Ver} (h : ∀ p, rdStep key b p x = p) (l : List Ver) : readV base (insV x l) key b = readV base l key b := by
  unfold readV insV
  rw [List.foldl_append, List.foldl_cons, h, ← List.foldl_append, List.takeWhile_append_dropWhile]
theorem readV_putTo_no {base key b by_ : Int} : ∀ (u : List Ent) (out : List Ver), (∀ e ∈ u, e.k ≠ key ∨ ¬ by_ < b) → readV base (putTo by_ out u) key b = readV base out key b
  | [], _, _ => rfl
  | e :: u, out, h => by
    show readV base (putTo by_ (insV (mkV by_ e) out) u) key b = _
    rw [readV_putTo_no u _ fun x hx => h x (by simp [hx]), readV_ins_no]
    intro p
    rcases h e (by simp) with h1 | h1
    · exact rdStep_no1 h1
    · exact rdStep_no2 h1
theorem foldl_no {key b : Int} : ∀ (B : List Ver) (p : Int × Int), (∀ y ∈ B, ¬ (y.k = key ∧ y.b < b)) → B.foldl (rdStep key b) p = p
  | [], _, _ => rfl
  | y :: B, p, h => by
    rw [List.foldl_cons]
    have : rdStep key b p y = p := if_neg (h y (by simp))
    rw [this]
    exact foldl_no B p fun z hz => h z (by simp [hz])
theorem readV_last {base key b : Int} {l : List Ver} {x : Ver} (hs : l.Pairwise fun a b => verLt a b = true) (hx : x ∈ l) (hk : x.k = key) (hb : x.b < b) (hm : ∀ y ∈ l, y.k = key → y.b < b → y.b ≤ x.b) : readV base l key b = (x.v, x.b) := by
  obtain ⟨A, B, rfl⟩ := List.append_of_mem hx
  rw [List.pairwise_append, List.pairwise_cons] at hs
  unfold readV
  rw [List.foldl_append, List.foldl_cons, rdStep_yes hk hb]
  refine foldl_no B _ fun y hy ⟨h1, h2⟩ => ?_
  have h3 := hs.2.1.1 y hy
  rw [verLt_iff] at h3
  have := hm y (by simp [hy]) h1 h2
  omega
theorem readV_more {base key b c : Int} {l : List Ver} (h : ∀ x ∈ l, x.b < b) (hbc : b ≤ c) : readV base l key c = readV base l key b := by
  have key' : ∀ (l : List Ver) (p : Int × Int), (∀ x ∈ l, x.b < b) → l.foldl (rdStep key c) p = l.foldl (rdStep key b) p := by
    intro l
    induction l with
    | nil => intro p _; rfl
    | cons x l ih =>
      intro p h
      have hx := h x (by simp)
      have e : rdStep key c p x = rdStep key b p x := by
        unfold rdStep
        by_cases hk : x.k = key
        · rw [if_pos ⟨hk, by omega⟩, if_pos ⟨hk, hx⟩]
        · rw [if_neg fun a => hk a.1, if_neg fun a => hk a.1]
      rw [List.foldl_cons, List.foldl_cons, e, ih _ fun y hy => h y (by simp [hy])]
  exact key' l (base, -1) h
theorem versE_early (E : List Eff) (base key : Int) {n : Nat} : ∀ (d : Nat), readV base (versE E (n + d)) key n = readV base (versE E n) key n
  | 0 => rfl
  | d + 1 => by
    rw [← Nat.add_assoc, versE_to, readV_putTo_no, versE_early E base key d]
    intro e _
    right; omega
theorem versE_read {s : List Ent} {l : List Actn} (hs : entsOk 1 s = true) (hl : ∀ x ∈ l, x.ok = true) (hlen : l.length ≤ 10) {key : Nat} (hkey : key < 32) :
    ∀ n, n ≤ l.length → (readV (atK s key) (versE (runAll (valsOf s) l).2 n) key n).1 = (runAll (valsOf s) (l.take n)).1.getD key 0
  | 0, _ => by
    show atK s key = (valsOf s).getD key 0
    rw [List.getD_eq_getElem?_getD, valsOf_get hs hkey]; rfl
  | n + 1, hn => by
    obtain ⟨x, hx⟩ := getElem?_some_of_lt (l := l) (k := n) (by omega)
    have hvi : valsIn (valsOf s) := valsOf_in (entsOk_least (by decide) hs)
    have hE := runAll_at (valsOf s) hx
    have ih := versE_read hs hl hlen hkey n (by omega)
    have hW : ∀ e ∈ (runAll (valsOf s) l).2, entsOk 0 e.w = true := by
      intro e he
      obtain ⟨i, hi⟩ := List.getElem?_of_mem he
      have hil : i < l.length := by have := (List.getElem?_eq_some_iff.1 hi).1; rwa [runAll_len] at this
      obtain ⟨y, hy⟩ := getElem?_some_of_lt hil
      rw [runAll_at (valsOf s) hy] at hi
      cases hi
      exact runV_ok (runAll_in hvi fun z hz => hl z (List.mem_of_mem_take hz)) (hl y (List.mem_of_getElem? hy))
    have hby := versE_by (runAll (valsOf s) l).2 n
    have hby1 := versE_by (runAll (valsOf s) l).2 (n + 1)
    have hok1 := vers_sorted (versE_ok hW (n + 1) (by omega))
    have hto := versE_to (runAll (valsOf s) l).2 n
    rw [hE] at hto
    have hVi : valsIn (runAll (valsOf s) (l.take n)).1 := runAll_in hvi fun z hz => hl z (List.mem_of_mem_take hz)
    have hVl : (runAll (valsOf s) (l.take n)).1.length = 32 := hVi.1
    have hu := runV_ok hVi (hl x (List.mem_of_getElem? hx))
    have hstep : (runAll (valsOf s) (l.take (n + 1))).1 = vsets (runAll (valsOf s) (l.take n)).1 (runV (runAll (valsOf s) (l.take n)).1 x).w := by rw [runAll_snoc _ hx]; rfl
    rw [hstep, List.getD_eq_getElem?_getD, vsets_get _ _ key (asc_of hu) (fun y hy => (entsOk_mem hu hy).1) (by omega)]
    dsimp only at hto
    generalize (runV (runAll (valsOf s) (l.take n)).1 x).w = u at *
    generalize (runAll (valsOf s) (l.take n)).1 = V at *
    generalize versE (runAll (valsOf s) l).2 (n + 1) = W1 at *
    generalize versE (runAll (valsOf s) l).2 n = W0 at *
    cases hf : u.find? (fun e => e.k == (key : Int)) with
    | none =>
      rw [List.find?_eq_none] at hf
      rw [hto, readV_putTo_no u W0 (fun e he => .inl (by have := hf e he; simpa using this)), readV_more (b := (n : Int)) (fun y hy => (hby y hy).2) (by omega), ih, List.getD_eq_getElem?_getD]
    | some y =>
      have hy := List.mem_of_find?_eq_some hf
      have hyk : y.k = key := by have := List.find?_some hf; simpa using this
      have hmem : mkV n y ∈ W1 := by
        rw [hto]
        exact (putTo_perm (n : Int) u W0).mem_iff.2 (List.mem_append.2 (.inr (List.mem_map.2 ⟨y, hy, rfl⟩)))
      rw [readV_last hok1 hmem hyk (by show (n : Int) < _; omega) (fun z hz _ _ => by have := hby1 z hz; show z.b ≤ (n : Int); omega)]
      rfl
theorem serOkW {s : List Ent} {l : List Actn} (hs : entsOk 1 s = true) (hl : ∀ x ∈ l, x.ok = true) : ∀ e ∈ (runAll (valsOf s) l).2, entsOk 0 e.w = true := by
  have hvi : valsIn (valsOf s) := valsOf_in (entsOk_least (by decide) hs)
  intro e he
  obtain ⟨i, hi⟩ := List.getElem?_of_mem he
  have hil : i < l.length := by have := (List.getElem?_eq_some_iff.1 hi).1; rwa [runAll_len] at this
  obtain ⟨y, hy⟩ := getElem?_some_of_lt hil
  rw [runAll_at (valsOf s) hy] at hi
  cases hi
  exact runV_ok (runAll_in hvi fun z hz => hl z (List.mem_of_mem_take hz)) (hl y (List.mem_of_getElem? hy))
/-- An action reads in all versions what it read in the run. -/
theorem serV_read {s : List Ent} {l : List Actn} (hs : entsOk 1 s = true) (hl : ∀ x ∈ l, x.ok = true) (hlen : l.length ≤ 10) {k : Nat} {e : Eff} (he : (runAll (valsOf s) l).2[k]? = some e) {y : Ent} (hy : y ∈ e.r) :
    (rdV s (versE (runAll (valsOf s) l).2 l.length) y.k k).1 = y.v := by
  have hvi : valsIn (valsOf s) := valsOf_in (entsOk_least (by decide) hs)
  have hk : k < l.length := by have := (List.getElem?_eq_some_iff.1 he).1; rwa [runAll_len] at this
  obtain ⟨x, hx⟩ := getElem?_some_of_lt hk
  rw [runAll_at (valsOf s) hx] at he
  cases he
  have hVi : valsIn (runAll (valsOf s) (l.take k)).1 := runAll_in hvi fun z hz => hl z (List.mem_of_mem_take hz)
  obtain ⟨k0, k1, hv⟩ := rds_at (hl x (List.mem_of_getElem? hx)) hVi.1 y hy
  have hr := versE_read hs hl hlen (key := y.k.toNat) (by omega) k (by omega)
  rw [List.getD_eq_getElem?_getD, hv, show ((y.k.toNat : Nat) : Int) = y.k from by omega] at hr
  have hE := versE_early (runAll (valsOf s) l).2 (atK s y.k) y.k (n := k) (l.length - k)
  rw [show k + (l.length - k) = l.length from by omega] at hE
  have hV := versE_ok (serOkW hs hl) l.length hlen
  rw [rdV_yes (by simp only [rdOk, hs, hV, Bool.true_and, Bool.and_eq_true, inR_iff]; omega), hE, hr]
  rfl
/-- All versions leave the run's store. -/
theorem serV_last {s : List Ent} {l : List Actn} (hs : entsOk 1 s = true) (hl : ∀ x ∈ l, x.ok = true) (hlen : l.length ≤ 10) :
    lastR s (versE (runAll (valsOf s) l).2 l.length) = storeOf (runAll (valsOf s) l).1 := by
  have hvi : valsIn (valsOf s) := valsOf_in (entsOk_least (by decide) hs)
  have hV := versE_ok (serOkW hs hl) l.length hlen
  rw [lastR_yes (by rw [hs, hV]; rfl)]
  congr 1
  have hRl : (runAll (valsOf s) l).1.length = 32 := (runAll_in hvi hl).1
  apply List.ext_getElem?
  intro i
  by_cases hi : i < 32
  · have hr := versE_read hs hl hlen hi l.length (Nat.le_refl _)
    rw [List.take_length, List.getD_eq_getElem?_getD] at hr
    obtain ⟨c, hc⟩ := getElem?_some_of_lt (l := (runAll (valsOf s) l).1) (k := i) (by omega)
    rw [hc] at hr
    rw [lastV_get _ _ hi, hc, readV_more (b := (l.length : Int)) (fun y hy => (versE_by _ _ y hy).2) (by omega), hr]
    rfl
  · rw [List.getElem?_eq_none (by rw [lastV_length]; omega), List.getElem?_eq_none (by omega)]
end Go.Proofs.Ytkboefmkfpnpjaa
