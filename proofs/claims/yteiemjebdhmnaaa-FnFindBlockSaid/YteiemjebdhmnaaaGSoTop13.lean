/- Walks: actions over a store: the reference's side. Walks: runs, the reference's side. Walks: drawn stores. -/
import Derived.Test.YteiemjebdhmnaaaGSoTop12
import Derived.Test.YteiemjebdhmnaaaGSoTop10
import Derived.Test.YteiemjebdhmnaaaGSoTop11
import Derived.Test.YteiemjebdhmnaaaGSoTop04
import Derived.Test.YteiemjebdhmnaaaGSoTop08
set_option linter.unusedSimpArgs false
set_option linter.unusedVariables false
namespace Go.Proofs.Yteiemjebdhmnaaa
open Go Go.RowKit Go.Proofs

set_option maxRecDepth 100000 in
set_option maxHeartbeats 2000000 in
theorem sRunAction_yes (s : List Ent) (x : Actn) (v : Value) (w : World) (h : SL (RF Ent.enc) 2 w v s) (hok : entsOk 1 s = true) (hx : x.ok = true) :
    Calls Try.prog 66 #[v, .agg #[.int .i64 x.kind, .int .i64 x.src, .int .i64 x.dst, .int .i64 x.amt]] w fun e w' => ∃ vr vw, e = .returned (.agg #[.bool (runE x (atK s x.src) (atK s x.dst)).d, vr, vw]) ∧ Up w w' ∧
      Own Ent.enc 61 2 w.heap.size w' vr (runE x (atK s x.src) (atK s x.dst)).r ∧ Own Ent.enc 61 2 w.heap.size w' vw (runE x (atK s x.src) (atK s x.dst)).w ∧ Apart vr vw := by
  have H := Lib.hid h
  obtain ⟨p, c, rfl, _, _⟩ := h.openc
  have kv := fun w (h : SL (RF Ent.enc) 2 w (.slice p s.length c) s) => sStoreValid_any s _ w h
  simp only [hok] at kv
  have ka := fun w => sActionValid_any x w
  simp only [hx] at ka
  obtain ⟨f0, f1⟩ := atK_in hok (by decide) x.src
  obtain ⟨t0, t1⟩ := atK_in hok (by decide) x.dst
  clear h
  generalize hE : runE x (atK s x.src) (atK s x.dst) = E
  have kr := fun w => l6Run_any x (atK s x.src) (atK s x.dst) w hx f0 f1 t0 t1
  simp only [hE] at kr
  clear hE hx hok
  go_enter Try.func66, Try.ntmps66
  go_wp2_with (first | (go_at_call 35; refine (kv _ (H.out.up (by repeat (first | (with_reducible exact Ext.refl _) | (with_reducible refine Ext.up ?_ _) | (with_reducible refine Ext.alloc ?_ _) | (with_reducible refine Ext.drew ?_) | (with_reducible refine Ext.setRow ?_ (by first | exact LeS.le | exact LeS.add _ | (simp; done) | (simp; omega)) _) | (with_reducible refine Ext.setCell ?_ (by first | exact LeS.le | exact LeS.add _ | (simp; done) | (simp; omega)) _))))).mono ?_; rintro e w' ⟨rfl, z1, rfl⟩) | (go_at_call 96; refine (ka _).mono ?_; rintro e w' ⟨rfl, z2, rfl⟩))
  have hsz : w.heap.size + 1 + 1 ≤ z2.val.heap.size := by have h1 := z1.ext.size; have h2 := z2.ext.size; simp at h1 h2; omega
  (go_region_held3 (fun w' => (∀ n i, ∀ [LtS n (w.alloc (.cells #[.int .i64 x.kind, .int .i64 x.src, .int .i64 x.dst, .int .i64 x.amt] 85))], w'.cell? ⟨n, i, none⟩ = World.cell? (w.alloc (.cells #[.int .i64 x.kind, .int .i64 x.src, .int .i64 x.dst, .int .i64 x.amt] 85)) ⟨n, i, none⟩) ∧ Ext (w.alloc (.cells #[.int .i64 x.kind, .int .i64 x.src, .int .i64 x.dst, .int .i64 x.amt] 85)) w') ((refine S_of_ext ?_; (repeat (first | exact Ext.refl _ | refine Ext.up ?_ _ | refine Ext.alloc ?_ _ | refine Ext.drew ?_ | refine Ext.setRow ?_ (by first | (dsimp only; omega) | exact LeS.le | exact LeS.add _ | (simp; done) | (simp; omega)) _ | refine Ext.setCell ?_ (by first | (dsimp only; omega) | exact LeS.le | exact LeS.add _ | (simp; done) | (simp; omega)) _)); done)) (first | (go_at_call 98; refine (l2At_any s _ _ _ (H.out.up (by repeat (first | (with_reducible exact Ext.refl _) | (with_reducible refine Ext.up ?_ _) | (with_reducible refine Ext.alloc ?_ _) | (with_reducible refine Ext.drew ?_) | (with_reducible refine Ext.setRow ?_ (by first | exact LeS.le | exact LeS.add _ | (simp; done) | (simp; omega)) _) | (with_reducible refine Ext.setCell ?_ (by first | exact LeS.le | exact LeS.add _ | (simp; done) | (simp; omega)) _))))).mono ?_; rintro e w' ⟨rfl, rfl⟩) | ((go_at_call 97; refine (kr _).mono ?_; rintro e w' ⟨vr, vw, rfl, ⟨z6, rfl⟩, o1, o2, ap⟩); obtain ⟨p1, c1, rfl, _, _⟩ := (o1.sl Ent.enc_length).openc; obtain ⟨p2, c2, rfl, _, _⟩ := (o2.sl Ent.enc_length).openc)))
  all_goals
    have O1 := Lib.hid o1; have O2 := Lib.hid o2; have AP := Lib.hid ap
    clear o1 o2 ap
    go_wp2_with fail
    refine bodyPost_ret (v := .agg #[.bool E.d, .slice p1 E.r.length c1, .slice p2 E.w.length c2]) (by simp [results, Try.results66, go_sem]) rfl ?_
    refine ⟨_, _, rfl, (.of (by repeat (first | (with_reducible exact Ext.refl _) | (with_reducible refine Ext.up ?_ _) | (with_reducible refine Ext.alloc ?_ _) | (with_reducible refine Ext.drew ?_) | (with_reducible refine Ext.setRow ?_ (by first | exact LeS.le | exact LeS.add _ | (simp; done) | (simp; omega)) _) | (with_reducible refine Ext.setCell ?_ (by first | exact LeS.le | exact LeS.add _ | (simp; done) | (simp; omega)) _)))), ?_, ?_, AP.out⟩
    · refine Own.lo (lo := z2.val.heap.size) ?_ (by omega)
      (repeat (first | (with_reducible exact O1.out) | (exact O1.out) | (with_reducible refine Own.setLo ?_ (by omega)) | (with_reducible refine Own.alloc ?_)))
    · refine Own.lo (lo := z2.val.heap.size) ?_ (by omega)
      (repeat (first | (with_reducible exact O2.out) | (exact O2.out) | (with_reducible refine Own.setLo ?_ (by omega)) | (with_reducible refine Own.alloc ?_)))
end Go.Proofs.Yteiemjebdhmnaaa
namespace Go.Proofs.Yteiemjebdhmnaaa
open Go Go.RowKit Go.Proofs

theorem runE_rlen (x : Actn) (f t : Int) : (runE x f t).r.length ≤ 2 := by
  show (x.rds f t).length ≤ 2
  rw [rds_len]; exact Actn.rk_le x
theorem runAll_len (v : List Int) (l : List Actn) : (runAll v l).2.length = l.length := by
  have key : ∀ (l : List Actn) (p : List Int × List Eff), (l.foldl runStep p).2.length = p.2.length + l.length := by
    intro l
    induction l with
    | nil => intro p; simp
    | cons x l ih => intro p; rw [List.foldl_cons, ih]; simp [runStep]; omega
  simpa [runAll] using key l (v, [])
theorem runE_wlen (x : Actn) (f t : Int) : (runE x f t).w.length ≤ 2 := by
  unfold runE
  dsimp only
  split
  · unfold Actn.wrs sort2
    repeat' split
    all_goals simp
  · simp
theorem runAll_small (v : List Int) (l : List Actn) : ∀ x ∈ (runAll v l).2, x.r.length ≤ 1000 ∧ x.w.length ≤ 1000 := by
  have key : ∀ (l : List Actn) (p : List Int × List Eff), (∀ x ∈ p.2, x.r.length ≤ 1000 ∧ x.w.length ≤ 1000) → ∀ x ∈ (l.foldl runStep p).2, x.r.length ≤ 1000 ∧ x.w.length ≤ 1000 := by
    intro l
    induction l with
    | nil => intro p h; exact h
    | cons y l ih =>
      intro p h
      refine ih _ fun x hx => ?_
      rcases List.mem_append.1 (show x ∈ p.2 ++ [runV p.1 y] from hx) with hx | hx
      · exact h x hx
      · rw [List.mem_singleton] at hx; subst hx
        have h1 := runE_rlen y (p.1.getD y.src.toNat 0) (p.1.getD y.dst.toNat 0)
        have h2 := runE_wlen y (p.1.getD y.src.toNat 0) (p.1.getD y.dst.toNat 0)
        exact ⟨Nat.le_trans h1 (by omega), Nat.le_trans h2 (by omega)⟩
  exact key l (v, []) (by simp)
set_option maxRecDepth 100000 in
set_option maxHeartbeats 2000000 in
theorem sRunSerial_yes (s : List Ent) (l : List Actn) (v vl : Value) (w : World) (h : SL (RF Ent.enc) 2 w v s) (hl : SL (RF Actn.enc) 4 w vl l) (hok : entsOk 1 s = true) (hlk : actsOk l = true) :
    Calls Try.prog 34 #[v, vl] w fun e w' => ∃ v1 v2 ts, e = .returned (.tuple #[v1, v2]) ∧ Up w w' ∧ Own Ent.enc 61 2 w.heap.size w' v1 (storeOf (runAll (valsOf s) l).1) ∧
      OE 82 61 w.heap.size w' v2 ts ∧ ts.map TE.core = (runAll (valsOf s) l).2 ∧ Apart v1 v2 := by
  have H := Lib.hid h; have HL := Lib.hid hl
  obtain ⟨p, c, rfl, _, _⟩ := h.openc
  obtain ⟨p3, c3, rfl, hll, hcl⟩ := hl.open
  have hls := entsOk_len hok
  have kv := fun w (h : SL (RF Ent.enc) 2 w (.slice p s.length c) s) => sStoreValid_any s _ w h
  simp only [hok] at kv
  have kw := fun w (h : SL (RF Actn.enc) 4 w (.slice p3 l.length c3) l) => sActionsValid_any l _ w h
  simp only [hlk] at kw
  have hvi : valsIn (valsOf s) := valsOf_in (entsOk_least (by decide) hok)
  have hlen := actsOk_len hlk
  have Hok := Lib.hid hok; have Hlk := Lib.hid hlk; have Hvi := Lib.hid hvi
  clear h hl hok hlk hvi
  go_enter Try.func34, Try.ntmps34
  go_wp2_with (first | (go_at_call 35; refine (kv _ (H.out.up (by repeat (first | (with_reducible exact Ext.refl _) | (with_reducible refine Ext.up ?_ _) | (with_reducible refine Ext.alloc ?_ _) | (with_reducible refine Ext.drew ?_) | (with_reducible refine Ext.setRow ?_ (by first | exact LeS.le | exact LeS.add _ | (simp; done) | (simp; omega)) _) | (with_reducible refine Ext.setCell ?_ (by first | exact LeS.le | exact LeS.add _ | (simp; done) | (simp; omega)) _))))).mono ?_; rintro e w' ⟨rfl, z1, rfl⟩) | (go_at_call 65; refine (kw _ (HL.out.up (by repeat (first | (with_reducible exact Ext.refl _) | (with_reducible refine Ext.up ?_ _) | (with_reducible refine Ext.alloc ?_ _) | (with_reducible refine Ext.drew ?_) | (with_reducible refine Ext.setRow ?_ (by first | exact LeS.le | exact LeS.add _ | (simp; done) | (simp; omega)) _) | (with_reducible refine Ext.setCell ?_ (by first | exact LeS.le | exact LeS.add _ | (simp; done) | (simp; omega)) _))))).mono ?_; rintro e w' ⟨rfl, z2, rfl⟩) | (at_builtin; refine wpList_catA fEnt rfl (.tmp 21) (.tmp 22) rfl Ent.enc Ent.enc_length w (lo := w.heap.size + 1) s [] rfl (Own.lit rfl (by have h1 := z1.ext.size; have h2 := z2.ext.size; simp at h1 h2 ⊢; omega) rfl rfl Ent.enc_length (by simp)) (by repeat (first | (with_reducible exact Ext.refl _) | (with_reducible refine Ext.up ?_ _) | (with_reducible refine Ext.alloc ?_ _) | (with_reducible refine Ext.drew ?_) | (with_reducible refine Ext.setRow ?_ (by first | exact LeS.le | exact LeS.add _ | (simp; done) | (simp; omega)) _) | (with_reducible refine Ext.setCell ?_ (by first | exact LeS.le | exact LeS.add _ | (simp; done) | (simp; omega)) _))) (Nat.le_succ _) (by have h1 := z1.ext.size; have h2 := z2.ext.size; simp at h1 h2 ⊢; omega) rfl (H.out.up (by repeat (first | (with_reducible exact Ext.refl _) | (with_reducible refine Ext.up ?_ _) | (with_reducible refine Ext.alloc ?_ _) | (with_reducible refine Ext.drew ?_) | (with_reducible refine Ext.setRow ?_ (by first | exact LeS.le | exact LeS.add _ | (simp; done) | (simp; omega)) _) | (with_reducible refine Ext.setCell ?_ (by first | exact LeS.le | exact LeS.add _ | (simp; done) | (simp; omega)) _)))) (oneEs' _) (by simp; omega) (by simp; omega) ?_; intro v1 z3 o1 g1 b1; clear b1))
  have o0 : Own TE.enc 82 3 w.heap.size (w.alloc (.cells #[] 82)) (.slice (some ⟨w.heap.size, 0, none⟩) 0 0) [] := Own.lit rfl (Nat.le_refl _) rfl rfl TE.enc_length (by simp)
  have a0 : Apart v1 (.slice (some ⟨w.heap.size, 0, none⟩) 0 0) := (Apart.of_lt o0 o1 (by simp)).symm
  have O1 := Lib.hid o1
  have hE0 : Ext (w.alloc (.cells #[] 82)) z3.val := by
    refine Ext.grown (a := w.alloc (.cells #[] 82)) (b := z2.val.alloc (.cells #[] 61)) (by repeat (first | (with_reducible exact Ext.refl _) | (with_reducible refine Ext.up ?_ _) | (with_reducible refine Ext.alloc ?_ _) | (with_reducible refine Ext.drew ?_) | (with_reducible refine Ext.setRow ?_ (by first | exact LeS.le | exact LeS.add _ | (simp; done) | (simp; omega)) _) | (with_reducible refine Ext.setCell ?_ (by first | exact LeS.le | exact LeS.add _ | (simp; done) | (simp; omega)) _))) g1 (fun k hk => ?_)
    change (Value.slice (some ⟨z2.val.heap.size, 0, none⟩) 0 0).ownBlock = some k at hk
    have h1 := z1.ext.size; have h2 := z2.ext.size
    simp [Value.ownBlock] at hk h1 h2 ⊢; omega
  have O0 := Lib.hid (o0.up hE0)
  clear o1 o0 g1
  go_loopw [6, 7, 8] (fun s6 s7 s8 wr => ∃ (k : Nat) (ts : List TE), s8 = .int .i64 k ∧ k ≤ l.length ∧ Up w wr ∧ Own Ent.enc 61 2 w.heap.size wr s7 (storeOf (runAll (valsOf s) (l.take k)).1) ∧ OE 82 61 w.heap.size wr s6 ts ∧ ts.map TE.core = (runAll (valsOf s) (l.take k)).2 ∧ Apart s7 s6) (fun _ _ s8 _ => l.length - (intOf s8).toNat)
  case atStart => exact ⟨0, [], rfl, Nat.zero_le _, ⟨z3, rfl⟩, by rw [show (runAll (valsOf s) (l.take 0)).1 = valsOf s from rfl, storeOf_valsOf Hok.out]; exact O1.out.lo (Nat.le_succ _), ⟨O0.out, by simp⟩, rfl, a0⟩
  case round =>
    obtain ⟨k, ts, rfl, hk, ⟨z, rfl⟩, hown, hoe, hts, hap⟩ := hrel
    have hlt10 : (runAll (valsOf s) (l.take k)).2.length ≤ 10 := by rw [runAll_len, List.length_take]; omega
    have htl : ts.length ≤ 10 := by rw [← List.length_map (f := TE.core), hts]; exact hlt10
    have Hown := Lib.hid hown; have Hoe := Lib.hid hoe; have Hts := Lib.hid hts; have Hap := Lib.hid hap
    clear hown hoe hts hap hlt10
    by_cases hlt : k < l.length
    · obtain ⟨x, hxk⟩ := getElem?_some_of_lt hlt
      obtain ⟨g, off, hp, hb, _⟩ := hcl k x hxk
      obtain ⟨c0, c1, c2, c3⟩ := acell hcl hp hxk
      subst hp
      have k0 : (0 : Int) ≤ (k : Int) := by omega
      have k1 : (k : Int) < l.length := by omega
      have hxo := actsOk_at Hlk.out hxk
      have hVi : valsIn (runAll (valsOf s) (l.take k)).1 := runAll_in Hvi.out fun y hy => by obtain ⟨i, hi⟩ := List.getElem?_of_mem (List.mem_of_mem_take hy); exact actsOk_at Hlk.out hi
      have Hsn := Lib.hid (runAll_snoc (valsOf s) hxk)
      generalize hR : runAll (valsOf s) (l.take k) = R at *
      have kr := fun v w h => sRunAction_yes (storeOf R.1) x v w h (storeOf_ok hVi) hxo
      simp only [runE_store hVi hxo] at kr
      have ha := fun vr vw v w hs hu hr => sApplyEffect_yes (storeOf R.1) (runV R.1 x).w (runV R.1 x).d v vr vw w hs hu hr (storeOf_ok hVi) (runV_ok hVi hxo)
      rw [putAll_store hVi (fun e he => by have := entsOk_mem (runV_ok hVi hxo) he; omega)] at ha
      clear hcl hxk hVi hxo hR
      generalize hE : runV R.1 x = E at *
      have HE := Lib.hid hE; clear hE
      go_wp2_with (first | ((go_at_call 66; refine (kr _ _ ((Hown.out.sl Ent.enc_length).up (by repeat (first | (with_reducible exact Ext.refl _) | (with_reducible refine Ext.up ?_ _) | (with_reducible refine Ext.alloc ?_ _) | (with_reducible refine Ext.drew ?_) | (with_reducible refine Ext.setRow ?_ (by first | exact LeS.le | exact LeS.add _ | (simp; done) | (simp; omega)) _) | (with_reducible refine Ext.setCell ?_ (by first | exact LeS.le | exact LeS.add _ | (simp; done) | (simp; omega)) _))))).mono ?_; rintro e w' ⟨vr, vw, rfl, ⟨z4, rfl⟩, q1, q2, ap⟩); obtain ⟨p1, cc1, rfl, _, _⟩ := (q1.sl Ent.enc_length).openc; obtain ⟨p2, cc2, rfl, _, _⟩ := (q2.sl Ent.enc_length).openc; have Q1 := Lib.hid q1; have Q2 := Lib.hid q2; clear q1 q2 ap) | (go_at_call 67; refine (ha _ _ _ _ ((Hown.out.sl Ent.enc_length).up (by repeat (first | (with_reducible exact Ext.refl _) | (with_reducible refine Ext.up ?_ _) | (with_reducible refine Ext.alloc ?_ _) | (with_reducible refine Ext.drew ?_) | (with_reducible refine Ext.setRow ?_ (by first | exact LeS.le | exact LeS.add _ | (simp; done) | (simp; omega)) _) | (with_reducible refine Ext.setCell ?_ (by first | exact LeS.le | exact LeS.add _ | (simp; done) | (simp; omega)) _)))) ((Q2.out.sl Ent.enc_length).up (by repeat (first | (with_reducible exact Ext.refl _) | (with_reducible refine Ext.up ?_ _) | (with_reducible refine Ext.alloc ?_ _) | (with_reducible refine Ext.drew ?_) | (with_reducible refine Ext.setRow ?_ (by first | exact LeS.le | exact LeS.add _ | (simp; done) | (simp; omega)) _) | (with_reducible refine Ext.setCell ?_ (by first | exact LeS.le | exact LeS.add _ | (simp; done) | (simp; omega)) _)))) ⟨_, _, _, rfl⟩).mono ?_; rintro e w' ⟨v8, rfl, ⟨z5, rfl⟩, o8⟩) | (at_builtin; refine wpList_pushG fEff rfl (.tmp 39) (.tmp 41) rfl TE.enc TE.enc_length w (lo := w.heap.size) [⟨E.d, .slice p1 E.r.length cc1, .slice p2 E.w.length cc2, E.r, E.w⟩] ts rfl (Hoe.out.1.up (by repeat (first | (with_reducible exact Ext.refl _) | (with_reducible refine Ext.up ?_ _) | (with_reducible refine Ext.alloc ?_ _) | (with_reducible refine Ext.drew ?_) | (with_reducible refine Ext.setRow ?_ (by first | exact LeS.le | exact LeS.add _ | (simp; done) | (simp; omega)) _) | (with_reducible refine Ext.setCell ?_ (by first | exact LeS.le | exact LeS.add _ | (simp; done) | (simp; omega)) _)))) (by repeat (first | (with_reducible exact Ext.refl _) | (with_reducible refine Ext.up ?_ _) | (with_reducible refine Ext.alloc ?_ _) | (with_reducible refine Ext.drew ?_) | (with_reducible refine Ext.setRow ?_ (by first | exact LeS.le | exact LeS.add _ | (simp; done) | (simp; omega)) _) | (with_reducible refine Ext.setCell ?_ (by first | exact LeS.le | exact LeS.add _ | (simp; done) | (simp; omega)) _))) (Nat.le_refl _) LeS.le rfl rfl (by go_simp) rfl (oneTE _ (by intro y hy; simp at hy; subst hy; exact ⟨⟨_, _, _, rfl⟩, ⟨_, _, _, rfl⟩⟩)) (by simp; omega) (by simp; omega) ?_; intro v7 z7 o7 g7 b7))
      have A8 := Lib.hid (Apart.of_lt Hoe.out.1 o8 (by have := z4.ext.size; simp [setCell_sz]; omega)).symm
      have A1 := Lib.hid (Apart.of_lt Hoe.out.1 Q1.out (by simp)).symm
      have A2 := Lib.hid (Apart.of_lt Hoe.out.1 Q2.out (by simp)).symm
      have hzw := z.ext.size
      have hz4 := z4.ext.size
      have K8 := Own.up o8 (w' := _) (show Ext _ _ from (Ext.refl _).alloc (.cells #[.bool E.d, .slice p1 E.r.length cc1, .slice p2 E.w.length cc2] 82))
      have F8 := Lib.hid (K8.keep g7 A8.out)
      have B8 := Lib.hid (Apart.grown K8 A8.out (Nat.le_refl _) b7)
      have OE7 := Lib.hid (OE.snoc (Hoe.out.up (by repeat (first | (with_reducible exact Ext.refl _) | (with_reducible refine Ext.up ?_ _) | (with_reducible refine Ext.alloc ?_ _) | (with_reducible refine Ext.drew ?_) | (with_reducible refine Ext.setRow ?_ (by first | exact LeS.le | exact LeS.add _ | (simp; done) | (simp; omega)) _) | (with_reducible refine Ext.setCell ?_ (by first | exact LeS.le | exact LeS.add _ | (simp; done) | (simp; omega)) _)))) g7 b7 o7 ((Q1.out.up (by repeat (first | (with_reducible exact Ext.refl _) | (with_reducible refine Ext.up ?_ _) | (with_reducible refine Ext.alloc ?_ _) | (with_reducible refine Ext.drew ?_) | (with_reducible refine Ext.setRow ?_ (by first | exact LeS.le | exact LeS.add _ | (simp; done) | (simp; omega)) _) | (with_reducible refine Ext.setCell ?_ (by first | exact LeS.le | exact LeS.add _ | (simp; done) | (simp; omega)) _)))).lo (by first | omega | (simp; omega))) A1.out ((Q2.out.up (by repeat (first | (with_reducible exact Ext.refl _) | (with_reducible refine Ext.up ?_ _) | (with_reducible refine Ext.alloc ?_ _) | (with_reducible refine Ext.drew ?_) | (with_reducible refine Ext.setRow ?_ (by first | exact LeS.le | exact LeS.add _ | (simp; done) | (simp; omega)) _) | (with_reducible refine Ext.setCell ?_ (by first | exact LeS.le | exact LeS.add _ | (simp; done) | (simp; omega)) _)))).lo (by first | omega | (simp; omega))) A2.out)
      clear o8 o7 g7 b7 K8
      go_wp2_with fail
      go_roundw
      case rel =>
        refine ⟨k + 1, _, by go_num, by omega, ⟨z7, rfl⟩, ?_, OE7.out, ?_, B8.out⟩
        · rw [Hsn.out]
          show Own Ent.enc 61 2 w.heap.size z7.val v8 (storeOf (vsets R.1 (runV R.1 x).w))
          rw [HE.out]
          exact F8.out.lo (by simp [setCell_sz]; omega)
        · rw [Hsn.out]
          show _ = R.2 ++ [runV R.1 x]
          rw [HE.out, List.map_append, Hts.out]; rfl
      case measure => simp [intOf]; omega
    · obtain rfl : k = l.length := by omega
      rw [List.take_length] at Hown Hts
      clear hcl
      go_wp2_with fail
      refine bodyPost_ret (v := .tuple #[u7, u6]) (by simp [results, Try.results34, go_sem]) rfl ?_
      exact ⟨_, _, ts, rfl, ⟨z, rfl⟩, Hown.out, Hoe.out, Hts.out, Hap.out⟩
end Go.Proofs.Yteiemjebdhmnaaa
namespace Go.Proofs.Yteiemjebdhmnaaa
open Go Go.RowKit Go.Proofs

theorem rd_cat {α : Type} {enc : α → List Value} {e sz lo rb : Nat} {lim : Int} {w0 w W w7 : World} {v : Value} {l : List α} (hR : Rd w0 W rb lim) (hG : w.grownBy W (some rb)) (hown : Own enc e sz lo W v l) (hlo : rb < lo) (hw : w.heap.size ≤ lo) (hE : Ext w0 w7) (g7 : W.grownBy w7 v.ownBlock) :
    Rd w0 w7 rb lim ∧ (∃ z : ExtR rb w, w7 = z.val) := by
  refine ⟨hR.grown hE (g7.block rb hR.lt (fun e => ?_)), ExtR.of ?_⟩
  · rcases hown.ne_rb hlo with h | h
    · rw [h] at e; cases e
    · exact h e.symm
  · refine ⟨g7.os.trans hG.os, g7.tape.trans hG.tape, g7.output.trans hG.output, Nat.le_trans hG.size g7.size, fun n hn hne => ?_⟩
    refine (g7.block n (Nat.lt_of_lt_of_le hn hG.size) (fun e => ?_)).trans (hG.block n hn hne)
    have := (World.ownsRow.lt hown n e.symm).1
    omega
set_option maxRecDepth 100000 in
set_option maxHeartbeats 4000000 in
theorem drawStore_any (w0 w : World) (rb : Nat) (lim n : Int) (h : Rd w0 w rb lim) (hl : lim ≤ 100000) (hn0 : 0 ≤ n) (hn1 : n ≤ 1000000) :
    Calls Try.prog 51 #[.pointer (some ⟨rb, 0, none⟩), .int .i64 n] w fun e w' => ∃ v' l, e = .returned v' ∧ l.length ≤ 33 ∧ (n = 0 → entsOk 1 l = true) ∧ (∃ z : ExtR rb w, w' = z.val) ∧ Rd w0 w' rb (lim + 100) ∧ Own Ent.enc 61 2 w.heap.size w' v' l := by
  have H := Lib.hid h
  have hL : LtS rb w := ⟨h.lt⟩
  have hLe : w0.heap.size ≤ w.heap.size := h.ext.size
  have hlt := h.lt
  clear h
  go_enter Try.func51, Try.ntmps51
  go_wp2_with fail
  refine (pick_any w0 _ rb lim 7 (H.out.up (by repeat (first | (with_reducible exact Ext.refl _) | (with_reducible refine Ext.up ?_ _) | (with_reducible refine Ext.alloc ?_ _) | (with_reducible refine Ext.drew ?_) | (with_reducible refine Ext.setRow ?_ (by first | exact LeS.le | exact LeS.add _ | (simp; done) | (simp; omega)) _) | (with_reducible refine Ext.setCell ?_ (by first | exact LeS.le | exact LeS.add _ | (simp; done) | (simp; omega)) _)))) (by omega) (by omega) (by omega)).mono ?_; rintro e w' ⟨j0, rfl, j00, j01, j02, ⟨z0, rfl⟩, hr⟩
  have H0 := Lib.hid hr
  have hj := j01 (by omega)
  clear hr j01 j02
  go_wp2_with fail
  go_loopw [5, 6] (fun s5 s6 wr => ∃ (j : Int) (out : List Ent), s6 = .int .i64 j ∧ 0 ≤ j ∧ j ≤ 6 ∧ entsOk 1 out = true ∧ (∃ z : ExtR rb w, wr = z.val) ∧ Rd w0 wr rb (lim + 60 - 8 * j) ∧ Own Ent.enc 61 2 w.heap.size wr s5 out) (fun _ s6 _ => (intOf s6).toNat)
  case atStart =>
    refine ⟨j0, [], rfl, j00, by omega, rfl, ExtR.of (by repeat (first | (with_reducible exact grownBy_refl _ _) | (with_reducible refine GB.setNew ?_ (by first | exact LeS.le | exact LeS.add _ | (simp; done) | (simp; omega)) _ _) | (with_reducible refine GB.alloc ?_ _) | (with_reducible refine GB.drew ?_) | (with_reducible refine GB.upR ?_ _) | (with_reducible refine GB.up ?_ _))), H0.out.mono (by omega), ?_⟩
    have o0 : Own Ent.enc 61 2 w.heap.size (w.alloc (.cells #[] 61)) (.slice (some ⟨w.heap.size, 0, none⟩) 0 0) [] := Own.lit rfl (Nat.le_refl _) rfl rfl Ent.enc_length (by simp)
    exact Own.upR o0 hlt z0
  case round =>
    obtain ⟨j, out, rfl, jj0, jj6, hok, ⟨z, rfl⟩, hr, hown⟩ := hrel
    have hol := entsOk_len hok
    have H1 := Lib.hid hr; have HO := Lib.hid hown; have Hok := Lib.hid hok
    have hLz : LtS rb z.val := ⟨hr.lt⟩
    clear hr hown hok
    by_cases hjz : 0 < j
    · go_wp2_with fail
      refine (key_any w0 _ rb _ H1.out (by omega)).mono ?_; rintro e w' ⟨key, rfl, y0, y1, ⟨z1, rfl⟩, hr⟩
      have H2 := Lib.hid hr; clear hr
      go_wp2_with fail
      refine (value_any w0 _ rb _ H2.out (by omega)).mono ?_; rintro e w' ⟨val, rfl, x0, x1, ⟨z2, rfl⟩, hr⟩
      have H3 := Lib.hid hr; clear hr
      have HO2 := Lib.hid ((HO.out.upR hlt z1).upR hlt z2)
      go_wp2_with fail
      refine (sPutValue_yes out _ key val _ (HO2.out.sl Ent.enc_length) Hok.out y0 y1 x0 x1).mono ?_; rintro e w' ⟨v7, rfl, ⟨z3, rfl⟩, o7⟩
      have O7 := Lib.hid o7; clear o7
      have hsz : w.heap.size ≤ z2.val.heap.size := Nat.le_trans (Nat.le_trans z.grown.size z1.grown.size) z2.grown.size
      go_wp2_with fail
      go_roundw
      case rel =>
        refine ⟨j - 1, _, by go_num, by omega, by omega, ?_, ExtR.of (GB.up (GB.upR (GB.upR z.grown z1) z2) z3), (H3.out.up z3.ext).mono (by omega), O7.out.lo hsz⟩
        rw [putF_asc (asc_of Hok.out)]
        exact putS_ok Hok.out y0 y1 (fun hp => by simp at hp; omega)
      case measure => simp [intOf]; omega
    · obtain rfl : j = 0 := by omega
      go_wp2_with fail
      refine (odd_any w0 _ rb _ n H1.out (by omega) (by omega) (by omega)).mono ?_; rintro e w' ⟨bo, rfl, hbo, ⟨z1, rfl⟩, hr⟩
      have H2 := Lib.hid hr; clear hr
      have HO1 := Lib.hid (HO.out.upR hlt z1)
      rcases bo with _ | _
      · go_wp2_with fail
        go_ret
        exact ⟨_, out, rfl, by omega, fun _ => Hok.out, ExtR.of (GB.upR z.grown z1), H2.out.mono (by omega), HO1.out⟩
      · have hn : n ≠ 0 := fun e => by cases hbo e
        clear hbo
        go_wp2_with fail
        refine (pick_any w0 _ rb _ 4 H2.out (by omega) (by omega) (by omega)).mono ?_; rintro e w' ⟨q, rfl, q0, q1, q2, ⟨z2, rfl⟩, hr⟩
        have H3 := Lib.hid hr; clear hr
        have HO2 := Lib.hid (HO1.out.upR hlt z2)
        have hq1 := q1 (by omega)
        clear q1 q2
        have HG := Lib.hid (GB.upR (GB.upR z.grown z1) z2)
        have hLz2 : LtS rb z2.val := ⟨H3.out.lt⟩
        have hLeq : LeS w z2.val := ⟨HG.out.size⟩
        have hq : q = 0 ∨ q = 1 ∨ q = 2 ∨ q = 3 := by omega
        rcases hq with rfl | rfl | rfl | rfl
        · go_wp2_with (at_builtin; refine wpList_pushG fEnt rfl (.tmp 34) (.tmp 36) rfl Ent.enc Ent.enc_length w0 (lo := w.heap.size) [⟨32, 1⟩] out rfl HO2.out H3.out.ext hLe LeS.le rfl rfl (by go_simp) rfl (oneEs' _) (by simp; omega) (by simp; omega) ?_; intro v7 z7 o7 g7 b7; clear b7)
          obtain ⟨R7, E7⟩ := rd_push (w := w) H3.out HG.out HO2.out hlt (Nat.le_refl _) z7.ext g7; clear g7
          go_ret
          exact ⟨_, _, rfl, by rw [List.length_append]; simp; omega, fun e => absurd e hn, E7, R7.mono (by omega), o7⟩
        · have o1 : Own Ent.enc 61 2 w.heap.size (z2.val.alloc (.cells #[.int .i64 31, .int .i64 1] 61)) (.slice (some ⟨z2.val.heap.size, 0, none⟩) 1 1) [⟨31, 1⟩] := Own.lit rfl HG.out.size rfl rfl Ent.enc_length (by simp)
          have O1 := Lib.hid o1; clear o1
          go_wp2_with (at_builtin; refine wpList_pushG fEnt rfl (.tmp 41) (.tmp 43) rfl Ent.enc Ent.enc_length w0 (lo := w.heap.size) [⟨0, 1⟩] [⟨31, 1⟩] rfl O1.out (H3.out.alloc _).ext hLe (by have := HG.out.size; simp; omega) rfl rfl (by go_simp) rfl (oneEs' _) (by simp) (by simp) ?_; intro v7 z7 o7 g7 b7; clear b7)
          obtain ⟨R7, E7⟩ := rd_push (w := w) (H3.out.alloc _) (GB.alloc HG.out _) O1.out hlt (Nat.le_refl _) z7.ext g7; clear g7
          go_ret
          exact ⟨_, _, rfl, by simp, fun e => absurd e hn, E7, R7.mono (by omega), o7⟩
        · have o1 : Own Ent.enc 61 2 w.heap.size (z2.val.alloc (.cells #[] 61)) (.slice (some ⟨z2.val.heap.size, 0, none⟩) 0 0) [] := Own.lit rfl HG.out.size rfl rfl Ent.enc_length (by simp)
          have O1 := Lib.hid o1; clear o1
          go_wp2_with fail
          refine (pick_any w0 _ rb _ 3 ((H3.out.alloc _).alloc _) (by omega) (by omega) (by omega)).mono ?_; rintro e w' ⟨q, rfl, q0, q1, q2, ⟨z4, rfl⟩, hr⟩
          have H4 := Lib.hid hr; clear hr
          have hq1 := q1 (by omega)
          clear q1 q2
          have hLz4 : LtS z2.val.heap.size ((z2.val.alloc (.cells #[] 61)).alloc (.cells #[.int .i64 0, .int .i64 (-1), .int .i64 1000001] 3)) := ⟨by simp; omega⟩
          have HO4 := Lib.hid ((O1.out.up (w' := (z2.val.alloc (.cells #[] 61)).alloc (.cells #[.int .i64 0, .int .i64 (-1), .int .i64 1000001] 3)) (by repeat (first | (with_reducible exact Ext.refl _) | (with_reducible refine Ext.up ?_ _) | (with_reducible refine Ext.alloc ?_ _) | (with_reducible refine Ext.drew ?_) | (with_reducible refine Ext.setRow ?_ (by first | exact LeS.le | exact LeS.add _ | (simp; done) | (simp; omega)) _) | (with_reducible refine Ext.setCell ?_ (by first | exact LeS.le | exact LeS.add _ | (simp; done) | (simp; omega)) _)))).upR hlt z4)
          have HG4 := Lib.hid (GB.upR (GB.alloc (GB.alloc HG.out (.cells #[] 61)) (.cells #[.int .i64 0, .int .i64 (-1), .int .i64 1000001] 3)) z4)
          have hqq : q = 0 ∨ q = 1 ∨ q = 2 := by omega
          rcases hqq with rfl | rfl | rfl
          · go_wp2_with (at_builtin; refine wpList_pushG fEnt rfl (.tmp 47) (.tmp 54) rfl Ent.enc Ent.enc_length w0 (lo := w.heap.size) [⟨1, 0⟩] [] rfl HO4.out H4.out.ext hLe (by have := HG4.out.size; omega) rfl rfl (by go_simp) rfl (oneEs' _) (by simp) (by simp) ?_; intro v7 z7 o7 g7 b7; clear b7)
            obtain ⟨R7, E7⟩ := rd_push (w := w) H4.out HG4.out HO4.out hlt (Nat.le_refl _) z7.ext g7; clear g7
            go_ret
            exact ⟨_, _, rfl, by simp, fun e => absurd e hn, E7, R7.mono (by omega), o7⟩
          · go_wp2_with (at_builtin; refine wpList_pushG fEnt rfl (.tmp 47) (.tmp 54) rfl Ent.enc Ent.enc_length w0 (lo := w.heap.size) [⟨1, -1⟩] [] rfl HO4.out H4.out.ext hLe (by have := HG4.out.size; omega) rfl rfl (by go_simp) rfl (oneEs' _) (by simp) (by simp) ?_; intro v7 z7 o7 g7 b7; clear b7)
            obtain ⟨R7, E7⟩ := rd_push (w := w) H4.out HG4.out HO4.out hlt (Nat.le_refl _) z7.ext g7; clear g7
            go_ret
            exact ⟨_, _, rfl, by simp, fun e => absurd e hn, E7, R7.mono (by omega), o7⟩
          · go_wp2_with (at_builtin; refine wpList_pushG fEnt rfl (.tmp 47) (.tmp 54) rfl Ent.enc Ent.enc_length w0 (lo := w.heap.size) [⟨1, 1000001⟩] [] rfl HO4.out H4.out.ext hLe (by have := HG4.out.size; omega) rfl rfl (by go_simp) rfl (oneEs' _) (by simp) (by simp) ?_; intro v7 z7 o7 g7 b7; clear b7)
            obtain ⟨R7, E7⟩ := rd_push (w := w) H4.out HG4.out HO4.out hlt (Nat.le_refl _) z7.ext g7; clear g7
            go_ret
            exact ⟨_, _, rfl, by simp, fun e => absurd e hn, E7, R7.mono (by omega), o7⟩
        · have o1 : Own Ent.enc 61 2 w.heap.size (z2.val.alloc (.cells #[.int .i64 (-1), .int .i64 5] 61)) (.slice (some ⟨z2.val.heap.size, 0, none⟩) 1 1) [⟨-1, 5⟩] := Own.lit rfl HG.out.size rfl rfl Ent.enc_length (by simp)
          have O1 := Lib.hid o1; clear o1
          go_wp2_with (at_builtin; refine wpList_catA fEnt rfl (.tmp 29) (.tmp 30) rfl Ent.enc Ent.enc_length w0 (lo := w.heap.size) out [⟨-1, 5⟩] rfl O1.out (H3.out.alloc _).ext hLe (by have := HG.out.size; simp; omega) rfl ((HO2.out.sl Ent.enc_length).up (by repeat (first | (with_reducible exact Ext.refl _) | (with_reducible refine Ext.up ?_ _) | (with_reducible refine Ext.alloc ?_ _) | (with_reducible refine Ext.drew ?_) | (with_reducible refine Ext.setRow ?_ (by first | exact LeS.le | exact LeS.add _ | (simp; done) | (simp; omega)) _) | (with_reducible refine Ext.setCell ?_ (by first | exact LeS.le | exact LeS.add _ | (simp; done) | (simp; omega)) _)))) (oneEs' _) (by simp; omega) (by simp; omega) ?_; intro v7 z7 o7 g7 b7; clear b7)
          obtain ⟨R7, E7⟩ := rd_cat (w := w) (H3.out.alloc _) (GB.alloc HG.out _) O1.out hlt (Nat.le_refl _) z7.ext g7; clear g7
          go_ret
          exact ⟨_, _, rfl, by rw [List.length_append]; simp; omega, fun e => absurd e hn, E7, R7.mono (by omega), o7⟩
end Go.Proofs.Yteiemjebdhmnaaa
