/- Walks: actions over a store: the reference's side. Walks: runs, the reference's side. Walks: sums of effects, the reference's side. -/
import Derived.Test.YtphkimbhjfjjkaaGBSTop19
import Derived.Test.YtphkimbhjfjjkaaGBSTop08
import Derived.Test.YtphkimbhjfjjkaaGBSTop09
import Derived.Test.YtphkimbhjfjjkaaGBSTop04
import Derived.Test.YtphkimbhjfjjkaaGBSTop12
set_option linter.unusedSimpArgs false
set_option linter.unusedVariables false
namespace Go.Proofs.Ytphkimbhjfjjkaa
open Go Go.RowKit Go.Proofs

set_option maxRecDepth 100000 in
set_option maxHeartbeats 2000000 in
theorem sRunAction_yes (s : List Ent) (x : Actn) (v : Value) (w : World) (h : SL (RF Ent.enc) 2 w v s) (hok : entsOk 1 s = true) (hx : x.ok = true) :
    Calls Try.prog 141 #[v, .agg #[.int .i64 x.kind, .int .i64 x.src, .int .i64 x.dst, .int .i64 x.amt]] w fun e w' => ∃ vr vw, e = .returned (.agg #[.bool (runE x (atK s x.src) (atK s x.dst)).d, vr, vw]) ∧ Up w w' ∧
      Own Ent.enc 75 2 w.heap.size w' vr (runE x (atK s x.src) (atK s x.dst)).r ∧ Own Ent.enc 75 2 w.heap.size w' vw (runE x (atK s x.src) (atK s x.dst)).w ∧ Apart vr vw := by
  have H := Lib.hid h
  obtain ⟨p, c, rfl, _, _⟩ := h.openc
  have kv := fun w (h : SL (RF Ent.enc) 2 w (.slice p s.length c) s) => sStoreValid_any s _ w h
  simp only [hok] at kv
  have ka := fun w => sActionValid_any x w
  simp only [hx] at ka
  obtain ⟨f0, f1⟩ := atK_in hok (by decide) x.src
  obtain ⟨t0, t1⟩ := atK_in hok (by decide) x.dst
  clear h
  generalize hE : runE x (atK s x.src) (atK s x.dst) = E
  have kr := fun w => l6Run_any x (atK s x.src) (atK s x.dst) w hx f0 f1 t0 t1
  simp only [hE] at kr
  clear hE hx hok
  go_enter Try.func141, Try.ntmps141
  go_wp2_with (first | (go_at_call 19; refine (kv _ (H.out.up (by repeat (first | (with_reducible exact Ext.refl _) | (with_reducible refine Ext.up ?_ _) | (with_reducible refine Ext.alloc ?_ _) | (with_reducible refine Ext.drew ?_) | (with_reducible refine Ext.setRow ?_ (by first | exact LeS.le | exact LeS.add _ | (simp; done) | (simp; omega)) _) | (with_reducible refine Ext.setCell ?_ (by first | exact LeS.le | exact LeS.add _ | (simp; done) | (simp; omega)) _))))).mono ?_; rintro e w' ⟨rfl, z1, rfl⟩) | (go_at_call 116; refine (ka _).mono ?_; rintro e w' ⟨rfl, z2, rfl⟩))
  have hsz : w.heap.size + 1 + 1 ≤ z2.val.heap.size := by have h1 := z1.ext.size; have h2 := z2.ext.size; simp at h1 h2; omega
  (go_region_held3 (fun w' => (∀ n i, ∀ [LtS n (w.alloc (.cells #[.int .i64 x.kind, .int .i64 x.src, .int .i64 x.dst, .int .i64 x.amt] 71))], w'.cell? ⟨n, i, none⟩ = World.cell? (w.alloc (.cells #[.int .i64 x.kind, .int .i64 x.src, .int .i64 x.dst, .int .i64 x.amt] 71)) ⟨n, i, none⟩) ∧ Ext (w.alloc (.cells #[.int .i64 x.kind, .int .i64 x.src, .int .i64 x.dst, .int .i64 x.amt] 71)) w') ((refine S_of_ext ?_; (repeat (first | exact Ext.refl _ | refine Ext.up ?_ _ | refine Ext.alloc ?_ _ | refine Ext.drew ?_ | refine Ext.setRow ?_ (by first | (dsimp only; omega) | exact LeS.le | exact LeS.add _ | (simp; done) | (simp; omega)) _ | refine Ext.setCell ?_ (by first | (dsimp only; omega) | exact LeS.le | exact LeS.add _ | (simp; done) | (simp; omega)) _)); done)) (first | (go_at_call 128; refine (l2At_any s _ _ _ (H.out.up (by repeat (first | (with_reducible exact Ext.refl _) | (with_reducible refine Ext.up ?_ _) | (with_reducible refine Ext.alloc ?_ _) | (with_reducible refine Ext.drew ?_) | (with_reducible refine Ext.setRow ?_ (by first | exact LeS.le | exact LeS.add _ | (simp; done) | (simp; omega)) _) | (with_reducible refine Ext.setCell ?_ (by first | exact LeS.le | exact LeS.add _ | (simp; done) | (simp; omega)) _))))).mono ?_; rintro e w' ⟨rfl, rfl⟩) | ((go_at_call 143; refine (kr _).mono ?_; rintro e w' ⟨vr, vw, rfl, ⟨z6, rfl⟩, o1, o2, ap⟩); obtain ⟨p1, c1, rfl, _, _⟩ := (o1.sl Ent.enc_length).openc; obtain ⟨p2, c2, rfl, _, _⟩ := (o2.sl Ent.enc_length).openc)))
  all_goals
    have O1 := Lib.hid o1; have O2 := Lib.hid o2; have AP := Lib.hid ap
    clear o1 o2 ap
    go_wp2_with fail
    refine bodyPost_ret (v := .agg #[.bool E.d, .slice p1 E.r.length c1, .slice p2 E.w.length c2]) (by simp [results, Try.results141, go_sem]) rfl ?_
    refine ⟨_, _, rfl, (.of (by repeat (first | (with_reducible exact Ext.refl _) | (with_reducible refine Ext.up ?_ _) | (with_reducible refine Ext.alloc ?_ _) | (with_reducible refine Ext.drew ?_) | (with_reducible refine Ext.setRow ?_ (by first | exact LeS.le | exact LeS.add _ | (simp; done) | (simp; omega)) _) | (with_reducible refine Ext.setCell ?_ (by first | exact LeS.le | exact LeS.add _ | (simp; done) | (simp; omega)) _)))), ?_, ?_, AP.out⟩
    · refine Own.lo (lo := z2.val.heap.size) ?_ (by omega)
      (repeat (first | (with_reducible exact O1.out) | (exact O1.out) | (with_reducible refine Own.setLo ?_ (by omega)) | (with_reducible refine Own.alloc ?_)))
    · refine Own.lo (lo := z2.val.heap.size) ?_ (by omega)
      (repeat (first | (with_reducible exact O2.out) | (exact O2.out) | (with_reducible refine Own.setLo ?_ (by omega)) | (with_reducible refine Own.alloc ?_)))
end Go.Proofs.Ytphkimbhjfjjkaa
namespace Go.Proofs.Ytphkimbhjfjjkaa
open Go Go.RowKit Go.Proofs

theorem runE_rlen (x : Actn) (f t : Int) : (runE x f t).r.length ≤ 2 := by
  show (x.rds f t).length ≤ 2
  rw [rds_len]; exact Actn.rk_le x
theorem runAll_len (v : List Int) (l : List Actn) : (runAll v l).2.length = l.length := by
  have key : ∀ (l : List Actn) (p : List Int × List Eff), (l.foldl runStep p).2.length = p.2.length + l.length := by
    intro l
    induction l with
    | nil => intro p; simp
    | cons x l ih => intro p; rw [List.foldl_cons, ih]; simp [runStep]; omega
  simpa [runAll] using key l (v, [])
set_option maxRecDepth 100000 in
set_option maxHeartbeats 2000000 in
theorem sRunSerial_yes (s : List Ent) (l : List Actn) (v vl : Value) (w : World) (h : SL (RF Ent.enc) 2 w v s) (hl : SL (RF Actn.enc) 4 w vl l) (hok : entsOk 1 s = true) (hlk : actsOk l = true) :
    Calls Try.prog 134 #[v, vl] w fun e w' => ∃ v1 v2 ts, e = .returned (.tuple #[v1, v2]) ∧ Up w w' ∧ Own Ent.enc 75 2 w.heap.size w' v1 (storeOf (runAll (valsOf s) l).1) ∧
      OE 103 75 w.heap.size w' v2 ts ∧ ts.map TE.core = (runAll (valsOf s) l).2 ∧ Apart v1 v2 := by
  have H := Lib.hid h; have HL := Lib.hid hl
  obtain ⟨p, c, rfl, _, _⟩ := h.openc
  obtain ⟨p3, c3, rfl, hll, hcl⟩ := hl.open
  have hls := entsOk_len hok
  have kv := fun w (h : SL (RF Ent.enc) 2 w (.slice p s.length c) s) => sStoreValid_any s _ w h
  simp only [hok] at kv
  have kw := fun w (h : SL (RF Actn.enc) 4 w (.slice p3 l.length c3) l) => sActionsValid_any l _ w h
  simp only [hlk] at kw
  have hvi : valsIn (valsOf s) := valsOf_in (entsOk_least (by decide) hok)
  have hlen := actsOk_len hlk
  have Hok := Lib.hid hok; have Hlk := Lib.hid hlk; have Hvi := Lib.hid hvi
  clear h hl hok hlk hvi
  go_enter Try.func134, Try.ntmps134
  go_wp2_with (first | (go_at_call 19; refine (kv _ (H.out.up (by repeat (first | (with_reducible exact Ext.refl _) | (with_reducible refine Ext.up ?_ _) | (with_reducible refine Ext.alloc ?_ _) | (with_reducible refine Ext.drew ?_) | (with_reducible refine Ext.setRow ?_ (by first | exact LeS.le | exact LeS.add _ | (simp; done) | (simp; omega)) _) | (with_reducible refine Ext.setCell ?_ (by first | exact LeS.le | exact LeS.add _ | (simp; done) | (simp; omega)) _))))).mono ?_; rintro e w' ⟨rfl, z1, rfl⟩) | (go_at_call 80; refine (kw _ (HL.out.up (by repeat (first | (with_reducible exact Ext.refl _) | (with_reducible refine Ext.up ?_ _) | (with_reducible refine Ext.alloc ?_ _) | (with_reducible refine Ext.drew ?_) | (with_reducible refine Ext.setRow ?_ (by first | exact LeS.le | exact LeS.add _ | (simp; done) | (simp; omega)) _) | (with_reducible refine Ext.setCell ?_ (by first | exact LeS.le | exact LeS.add _ | (simp; done) | (simp; omega)) _))))).mono ?_; rintro e w' ⟨rfl, z2, rfl⟩) | (at_builtin; refine wpList_catA fEnt rfl (.tmp 21) (.tmp 22) rfl Ent.enc Ent.enc_length w (lo := w.heap.size + 1) s [] rfl (Own.lit rfl (by have h1 := z1.ext.size; have h2 := z2.ext.size; simp at h1 h2 ⊢; omega) rfl rfl Ent.enc_length (by simp)) (by repeat (first | (with_reducible exact Ext.refl _) | (with_reducible refine Ext.up ?_ _) | (with_reducible refine Ext.alloc ?_ _) | (with_reducible refine Ext.drew ?_) | (with_reducible refine Ext.setRow ?_ (by first | exact LeS.le | exact LeS.add _ | (simp; done) | (simp; omega)) _) | (with_reducible refine Ext.setCell ?_ (by first | exact LeS.le | exact LeS.add _ | (simp; done) | (simp; omega)) _))) (Nat.le_succ _) (by have h1 := z1.ext.size; have h2 := z2.ext.size; simp at h1 h2 ⊢; omega) rfl (H.out.up (by repeat (first | (with_reducible exact Ext.refl _) | (with_reducible refine Ext.up ?_ _) | (with_reducible refine Ext.alloc ?_ _) | (with_reducible refine Ext.drew ?_) | (with_reducible refine Ext.setRow ?_ (by first | exact LeS.le | exact LeS.add _ | (simp; done) | (simp; omega)) _) | (with_reducible refine Ext.setCell ?_ (by first | exact LeS.le | exact LeS.add _ | (simp; done) | (simp; omega)) _)))) (oneEs' _) (by simp; omega) (by simp; omega) ?_; intro v1 z3 o1 g1 b1; clear b1))
  have o0 : Own TE.enc 103 3 w.heap.size (w.alloc (.cells #[] 103)) (.slice (some ⟨w.heap.size, 0, none⟩) 0 0) [] := Own.lit rfl (Nat.le_refl _) rfl rfl TE.enc_length (by simp)
  have a0 : Apart v1 (.slice (some ⟨w.heap.size, 0, none⟩) 0 0) := (Apart.of_lt o0 o1 (by simp)).symm
  have O1 := Lib.hid o1
  have hE0 : Ext (w.alloc (.cells #[] 103)) z3.val := by
    refine Ext.grown (a := w.alloc (.cells #[] 103)) (b := z2.val.alloc (.cells #[] 75)) (by repeat (first | (with_reducible exact Ext.refl _) | (with_reducible refine Ext.up ?_ _) | (with_reducible refine Ext.alloc ?_ _) | (with_reducible refine Ext.drew ?_) | (with_reducible refine Ext.setRow ?_ (by first | exact LeS.le | exact LeS.add _ | (simp; done) | (simp; omega)) _) | (with_reducible refine Ext.setCell ?_ (by first | exact LeS.le | exact LeS.add _ | (simp; done) | (simp; omega)) _))) g1 (fun k hk => ?_)
    change (Value.slice (some ⟨z2.val.heap.size, 0, none⟩) 0 0).ownBlock = some k at hk
    have h1 := z1.ext.size; have h2 := z2.ext.size
    simp [Value.ownBlock] at hk h1 h2 ⊢; omega
  have O0 := Lib.hid (o0.up hE0)
  clear o1 o0 g1
  go_loopw [6, 7, 8] (fun s6 s7 s8 wr => ∃ (k : Nat) (ts : List TE), s8 = .int .i64 k ∧ k ≤ l.length ∧ Up w wr ∧ Own Ent.enc 75 2 w.heap.size wr s7 (storeOf (runAll (valsOf s) (l.take k)).1) ∧ OE 103 75 w.heap.size wr s6 ts ∧ ts.map TE.core = (runAll (valsOf s) (l.take k)).2 ∧ Apart s7 s6) (fun _ _ s8 _ => l.length - (intOf s8).toNat)
  case atStart => exact ⟨0, [], rfl, Nat.zero_le _, ⟨z3, rfl⟩, by rw [show (runAll (valsOf s) (l.take 0)).1 = valsOf s from rfl, storeOf_valsOf Hok.out]; exact O1.out.lo (Nat.le_succ _), ⟨O0.out, by simp⟩, rfl, a0⟩
  case round =>
    obtain ⟨k, ts, rfl, hk, ⟨z, rfl⟩, hown, hoe, hts, hap⟩ := hrel
    have hlt10 : (runAll (valsOf s) (l.take k)).2.length ≤ 10 := by rw [runAll_len, List.length_take]; omega
    have htl : ts.length ≤ 10 := by rw [← List.length_map (f := TE.core), hts]; exact hlt10
    have Hown := Lib.hid hown; have Hoe := Lib.hid hoe; have Hts := Lib.hid hts; have Hap := Lib.hid hap
    clear hown hoe hts hap hlt10
    by_cases hlt : k < l.length
    · obtain ⟨x, hxk⟩ := getElem?_some_of_lt hlt
      obtain ⟨g, off, hp, hb, _⟩ := hcl k x hxk
      obtain ⟨c0, c1, c2, c3⟩ := acell hcl hp hxk
      subst hp
      have k0 : (0 : Int) ≤ (k : Int) := by omega
      have k1 : (k : Int) < l.length := by omega
      have hxo := actsOk_at Hlk.out hxk
      have hVi : valsIn (runAll (valsOf s) (l.take k)).1 := runAll_in Hvi.out fun y hy => by obtain ⟨i, hi⟩ := List.getElem?_of_mem (List.mem_of_mem_take hy); exact actsOk_at Hlk.out hi
      have Hsn := Lib.hid (runAll_snoc (valsOf s) hxk)
      generalize hR : runAll (valsOf s) (l.take k) = R at *
      have kr := fun v w h => sRunAction_yes (storeOf R.1) x v w h (storeOf_ok hVi) hxo
      simp only [runE_store hVi hxo] at kr
      have ha := fun vr vw v w hs hu hr => sApplyEffect_yes (storeOf R.1) (runV R.1 x).w (runV R.1 x).d v vr vw w hs hu hr (storeOf_ok hVi) (runV_ok hVi hxo)
      rw [putAll_store hVi (fun e he => by have := entsOk_mem (runV_ok hVi hxo) he; omega)] at ha
      clear hcl hxk hVi hxo hR
      generalize hE : runV R.1 x = E at *
      have HE := Lib.hid hE; clear hE
      go_wp2_with (first | ((go_at_call 141; refine (kr _ _ ((Hown.out.sl Ent.enc_length).up (by repeat (first | (with_reducible exact Ext.refl _) | (with_reducible refine Ext.up ?_ _) | (with_reducible refine Ext.alloc ?_ _) | (with_reducible refine Ext.drew ?_) | (with_reducible refine Ext.setRow ?_ (by first | exact LeS.le | exact LeS.add _ | (simp; done) | (simp; omega)) _) | (with_reducible refine Ext.setCell ?_ (by first | exact LeS.le | exact LeS.add _ | (simp; done) | (simp; omega)) _))))).mono ?_; rintro e w' ⟨vr, vw, rfl, ⟨z4, rfl⟩, q1, q2, ap⟩); obtain ⟨p1, cc1, rfl, _, _⟩ := (q1.sl Ent.enc_length).openc; obtain ⟨p2, cc2, rfl, _, _⟩ := (q2.sl Ent.enc_length).openc; have Q1 := Lib.hid q1; have Q2 := Lib.hid q2; clear q1 q2 ap) | (go_at_call 142; refine (ha _ _ _ _ ((Hown.out.sl Ent.enc_length).up (by repeat (first | (with_reducible exact Ext.refl _) | (with_reducible refine Ext.up ?_ _) | (with_reducible refine Ext.alloc ?_ _) | (with_reducible refine Ext.drew ?_) | (with_reducible refine Ext.setRow ?_ (by first | exact LeS.le | exact LeS.add _ | (simp; done) | (simp; omega)) _) | (with_reducible refine Ext.setCell ?_ (by first | exact LeS.le | exact LeS.add _ | (simp; done) | (simp; omega)) _)))) ((Q2.out.sl Ent.enc_length).up (by repeat (first | (with_reducible exact Ext.refl _) | (with_reducible refine Ext.up ?_ _) | (with_reducible refine Ext.alloc ?_ _) | (with_reducible refine Ext.drew ?_) | (with_reducible refine Ext.setRow ?_ (by first | exact LeS.le | exact LeS.add _ | (simp; done) | (simp; omega)) _) | (with_reducible refine Ext.setCell ?_ (by first | exact LeS.le | exact LeS.add _ | (simp; done) | (simp; omega)) _)))) ⟨_, _, _, rfl⟩).mono ?_; rintro e w' ⟨v8, rfl, ⟨z5, rfl⟩, o8⟩) | (at_builtin; refine wpList_pushG fEff rfl (.tmp 39) (.tmp 41) rfl TE.enc TE.enc_length w (lo := w.heap.size) [⟨E.d, .slice p1 E.r.length cc1, .slice p2 E.w.length cc2, E.r, E.w⟩] ts rfl (Hoe.out.1.up (by repeat (first | (with_reducible exact Ext.refl _) | (with_reducible refine Ext.up ?_ _) | (with_reducible refine Ext.alloc ?_ _) | (with_reducible refine Ext.drew ?_) | (with_reducible refine Ext.setRow ?_ (by first | exact LeS.le | exact LeS.add _ | (simp; done) | (simp; omega)) _) | (with_reducible refine Ext.setCell ?_ (by first | exact LeS.le | exact LeS.add _ | (simp; done) | (simp; omega)) _)))) (by repeat (first | (with_reducible exact Ext.refl _) | (with_reducible refine Ext.up ?_ _) | (with_reducible refine Ext.alloc ?_ _) | (with_reducible refine Ext.drew ?_) | (with_reducible refine Ext.setRow ?_ (by first | exact LeS.le | exact LeS.add _ | (simp; done) | (simp; omega)) _) | (with_reducible refine Ext.setCell ?_ (by first | exact LeS.le | exact LeS.add _ | (simp; done) | (simp; omega)) _))) (Nat.le_refl _) LeS.le rfl rfl (by go_simp) rfl (oneTE _ (by intro y hy; simp at hy; subst hy; exact ⟨⟨_, _, _, rfl⟩, ⟨_, _, _, rfl⟩⟩)) (by simp; omega) (by simp; omega) ?_; intro v7 z7 o7 g7 b7))
      have A8 := Lib.hid (Apart.of_lt Hoe.out.1 o8 (by have := z4.ext.size; simp [setCell_sz]; omega)).symm
      have A1 := Lib.hid (Apart.of_lt Hoe.out.1 Q1.out (by simp)).symm
      have A2 := Lib.hid (Apart.of_lt Hoe.out.1 Q2.out (by simp)).symm
      have hzw := z.ext.size
      have hz4 := z4.ext.size
      have K8 := Own.up o8 (w' := _) (show Ext _ _ from (Ext.refl _).alloc (.cells #[.bool E.d, .slice p1 E.r.length cc1, .slice p2 E.w.length cc2] 103))
      have F8 := Lib.hid (K8.keep g7 A8.out)
      have B8 := Lib.hid (Apart.grown K8 A8.out (Nat.le_refl _) b7)
      have OE7 := Lib.hid (OE.snoc (Hoe.out.up (by repeat (first | (with_reducible exact Ext.refl _) | (with_reducible refine Ext.up ?_ _) | (with_reducible refine Ext.alloc ?_ _) | (with_reducible refine Ext.drew ?_) | (with_reducible refine Ext.setRow ?_ (by first | exact LeS.le | exact LeS.add _ | (simp; done) | (simp; omega)) _) | (with_reducible refine Ext.setCell ?_ (by first | exact LeS.le | exact LeS.add _ | (simp; done) | (simp; omega)) _)))) g7 b7 o7 ((Q1.out.up (by repeat (first | (with_reducible exact Ext.refl _) | (with_reducible refine Ext.up ?_ _) | (with_reducible refine Ext.alloc ?_ _) | (with_reducible refine Ext.drew ?_) | (with_reducible refine Ext.setRow ?_ (by first | exact LeS.le | exact LeS.add _ | (simp; done) | (simp; omega)) _) | (with_reducible refine Ext.setCell ?_ (by first | exact LeS.le | exact LeS.add _ | (simp; done) | (simp; omega)) _)))).lo (by first | omega | (simp; omega))) A1.out ((Q2.out.up (by repeat (first | (with_reducible exact Ext.refl _) | (with_reducible refine Ext.up ?_ _) | (with_reducible refine Ext.alloc ?_ _) | (with_reducible refine Ext.drew ?_) | (with_reducible refine Ext.setRow ?_ (by first | exact LeS.le | exact LeS.add _ | (simp; done) | (simp; omega)) _) | (with_reducible refine Ext.setCell ?_ (by first | exact LeS.le | exact LeS.add _ | (simp; done) | (simp; omega)) _)))).lo (by first | omega | (simp; omega))) A2.out)
      clear o8 o7 g7 b7 K8
      go_wp2_with fail
      go_roundw
      case rel =>
        refine ⟨k + 1, _, by go_num, by omega, ⟨z7, rfl⟩, ?_, OE7.out, ?_, B8.out⟩
        · rw [Hsn.out]
          show Own Ent.enc 75 2 w.heap.size z7.val v8 (storeOf (vsets R.1 (runV R.1 x).w))
          rw [HE.out]
          exact F8.out.lo (by simp [setCell_sz]; omega)
        · rw [Hsn.out]
          show _ = R.2 ++ [runV R.1 x]
          rw [HE.out, List.map_append, Hts.out]; rfl
      case measure => simp [intOf]; omega
    · obtain rfl : k = l.length := by omega
      rw [List.take_length] at Hown Hts
      clear hcl
      go_wp2_with fail
      refine bodyPost_ret (v := .tuple #[u7, u6]) (by simp [results, Try.results134, go_sem]) rfl ?_
      exact ⟨_, _, ts, rfl, ⟨z, rfl⟩, Hown.out, Hoe.out, Hts.out, Hap.out⟩
end Go.Proofs.Ytphkimbhjfjjkaa
namespace Go.Proofs.Ytphkimbhjfjjkaa
open Go Go.RowKit Go.Proofs

set_option maxRecDepth 100000 in
set_option maxHeartbeats 4000000 in
theorem sEffectSum_any (d : Bool) (vr vw : Value) (r u : List Ent) (w : World) (hr : SL (RF Ent.enc) 2 w vr r) (hu : SL (RF Ent.enc) 2 w vw u) (hrl : r.length ≤ 1000) (hul : u.length ≤ 1000) :
    Calls Try.prog 101 #[.agg #[.bool d, vr, vw]] w fun e w' => e = .returned (.int .i64 (effSum ⟨d, r, u⟩)) ∧ Up w w' := by
  obtain ⟨p1, c1, rfl, _, hcr⟩ := hr.open
  obtain ⟨p2, c2, rfl, _, hcu⟩ := hu.open
  clear hr hu
  go_enter Try.func101, Try.ntmps101
  rcases d with _ | _
  · go_wp2_with fail
    go_loopw [3, 4] (fun s3 s4 wr => ∃ k : Nat, s4 = .int .i64 k ∧ k ≤ r.length ∧ Up (w.alloc (.cells #[.bool false, .slice p1 r.length c1, .slice p2 u.length c2] 103)) wr ∧ Own encI 3 1 (w.alloc (.cells #[.bool false, .slice p1 r.length c1, .slice p2 u.length c2] 103)).heap.size wr s3 ([0, (r.length : Int)] ++ entNums (r.take k))) (fun _ s4 _ => r.length - (intOf s4).toNat)
    case atStart => exact ⟨0, rfl, Nat.zero_le _, (.of (by repeat (first | (with_reducible exact Ext.refl _) | (with_reducible refine Ext.up ?_ _) | (with_reducible refine Ext.alloc ?_ _) | (with_reducible refine Ext.drew ?_) | (with_reducible refine Ext.setRow ?_ (by first | exact LeS.le | exact LeS.add _ | (simp; done) | (simp; omega)) _) | (with_reducible refine Ext.setCell ?_ (by first | exact LeS.le | exact LeS.add _ | (simp; done) | (simp; omega)) _)))), by simpa [entNums] using (Own.lit (lo := (w.alloc (.cells #[.bool false, .slice p1 r.length c1, .slice p2 u.length c2] 103)).heap.size) rfl (Nat.le_refl _) rfl rfl encI_length (by simp) : Own encI 3 1 (w.alloc (.cells #[.bool false, .slice p1 r.length c1, .slice p2 u.length c2] 103)).heap.size ((w.alloc (.cells #[.bool false, .slice p1 r.length c1, .slice p2 u.length c2] 103)).alloc (.cells #[.int .i64 0, .int .i64 r.length] 3)) (.slice (some ⟨(w.alloc (.cells #[.bool false, .slice p1 r.length c1, .slice p2 u.length c2] 103)).heap.size, 0, none⟩) 2 2) [0, (r.length : Int)])⟩
    case round =>
      obtain ⟨k, rfl, hk, ⟨z, rfl⟩, hown⟩ := hrel
      have Hown := Lib.hid hown; clear hown
      by_cases hlt : k < r.length
      · obtain ⟨x, hxk⟩ := getElem?_some_of_lt hlt
        obtain ⟨b, off, rfl, hb, hcc⟩ := hcr k x hxk
        have e0 : w.cell? ⟨b, off + k * 2, none⟩ = some (.int .i64 x.k) := hcc 0 _ rfl
        have e1 : w.cell? ⟨b, off + k * 2 + 1, none⟩ = some (.int .i64 x.v) := hcc 1 _ rfl
        have k0 : (0 : Int) ≤ (k : Int) := by omega
        have k1 : (k : Int) < r.length := by omega
        have Hx := Lib.hid (entNums_snoc hxk)
        have hle : ([0, (r.length : Int)] ++ entNums (r.take k)).length ≤ 10000 := by simp only [List.length_append, entNums_length, List.length_take, List.length_cons, List.length_nil]; omega
        have Hle := Lib.hid hle
        clear hcr hcu hxk hle hcc
        go_wp2_with fail
        (go_region_held3 (fun w' => (∀ n i, ∀ [LtS n (w.alloc (.cells #[.bool false, .slice (some ⟨b, off, none⟩) r.length c1, .slice p2 u.length c2] 103))], w'.cell? ⟨n, i, none⟩ = World.cell? (w.alloc (.cells #[.bool false, .slice (some ⟨b, off, none⟩) r.length c1, .slice p2 u.length c2] 103)) ⟨n, i, none⟩) ∧ Ext (w.alloc (.cells #[.bool false, .slice (some ⟨b, off, none⟩) r.length c1, .slice p2 u.length c2] 103)) w') ((refine S_of_ext ?_; (repeat (first | exact Ext.refl _ | refine Ext.up ?_ _ | refine Ext.alloc ?_ _ | refine Ext.drew ?_ | refine Ext.setRow ?_ (by first | (dsimp only; omega) | exact LeS.le | exact LeS.add _ | (simp; done) | (simp; omega)) _ | refine Ext.setCell ?_ (by first | (dsimp only; omega) | exact LeS.le | exact LeS.add _ | (simp; done) | (simp; omega)) _)); done)) (((refine step_pushL fI (by rfl) (.tmp 21) (.tmp 34) (by rfl) encI encI_length _ [x.k, x.v] ([0, (r.length : Int)] ++ entNums (r.take k)) (by rfl) (Hown.out.up (by repeat (first | exact Ext.refl _ | refine Ext.up ?_ _ | refine Ext.alloc ?_ _ | refine Ext.drew ?_ | refine Ext.setRow ?_ (by first | (dsimp only; omega) | exact LeS.le | exact LeS.add _ | (simp; done) | (simp; omega)) _ | refine Ext.setCell ?_ (by first | (dsimp only; omega) | exact LeS.le | exact LeS.add _ | (simp; done) | (simp; omega)) _))) (by repeat (first | exact Ext.refl _ | refine Ext.up ?_ _ | refine Ext.alloc ?_ _ | refine Ext.drew ?_ | refine Ext.setRow ?_ (by first | (dsimp only; omega) | exact LeS.le | exact LeS.add _ | (simp; done) | (simp; omega)) _ | refine Ext.setCell ?_ (by first | (dsimp only; omega) | exact LeS.le | exact LeS.add _ | (simp; done) | (simp; omega)) _)) (by rfl) (by rfl) (by decide) (by go_simp) (by rfl) (oneIs _) (by have := Hle.out; simp at this ⊢; omega) (by have := Hle.out; simp at this ⊢; omega) ?_; intro v1 z1 hown1))))
        have hown2 := Lib.hid hown1; clear hown1
        go_wp2_with fail
        go_roundw
        case rel => exact ⟨k + 1, by go_num, by omega, (.of (by repeat (first | (with_reducible exact Ext.refl _) | (with_reducible refine Ext.up ?_ _) | (with_reducible refine Ext.alloc ?_ _) | (with_reducible refine Ext.drew ?_) | (with_reducible refine Ext.setRow ?_ (by first | exact LeS.le | exact LeS.add _ | (simp; done) | (simp; omega)) _) | (with_reducible refine Ext.setCell ?_ (by first | exact LeS.le | exact LeS.add _ | (simp; done) | (simp; omega)) _)))), by rw [Hx.out, ← List.append_assoc]; exact hown2.out⟩
        case measure => simp [intOf]; omega
      · obtain rfl : k = r.length := by omega
        rw [List.take_length] at Hown
        go_wp2_with fail
        go_loopw [3, 5] (fun s3 s4 wr => ∃ k : Nat, s4 = .int .i64 k ∧ k ≤ u.length ∧ Up (w.alloc (.cells #[.bool false, .slice p1 r.length c1, .slice p2 u.length c2] 103)) wr ∧ Own encI 3 1 (w.alloc (.cells #[.bool false, .slice p1 r.length c1, .slice p2 u.length c2] 103)).heap.size wr s3 ([0, (r.length : Int)] ++ entNums r ++ entNums (u.take k))) (fun _ s4 _ => u.length - (intOf s4).toNat)
        case atStart => exact ⟨0, rfl, Nat.zero_le _, ⟨z, rfl⟩, by simpa [entNums] using Hown.out⟩
        case round =>
          obtain ⟨k, rfl, hk, ⟨z, rfl⟩, hown⟩ := hrel
          have Hown := Lib.hid hown; clear hown
          by_cases hlt : k < u.length
          · obtain ⟨x, hxk⟩ := getElem?_some_of_lt hlt
            obtain ⟨b, off, rfl, hb, hcc⟩ := hcu k x hxk
            have e0 : w.cell? ⟨b, off + k * 2, none⟩ = some (.int .i64 x.k) := hcc 0 _ rfl
            have e1 : w.cell? ⟨b, off + k * 2 + 1, none⟩ = some (.int .i64 x.v) := hcc 1 _ rfl
            have k0 : (0 : Int) ≤ (k : Int) := by omega
            have k1 : (k : Int) < u.length := by omega
            have Hx := Lib.hid (entNums_snoc hxk)
            have hle : ([0, (r.length : Int)] ++ entNums r ++ entNums (u.take k)).length ≤ 10000 := by simp only [List.length_append, entNums_length, List.length_take, List.length_cons, List.length_nil]; omega
            have Hle := Lib.hid hle
            clear hcr hcu hxk hle hcc
            go_wp2_with fail
            (go_region_held3 (fun w' => (∀ n i, ∀ [LtS n (w.alloc (.cells #[.bool false, .slice p1 r.length c1, .slice (some ⟨b, off, none⟩) u.length c2] 103))], w'.cell? ⟨n, i, none⟩ = World.cell? (w.alloc (.cells #[.bool false, .slice p1 r.length c1, .slice (some ⟨b, off, none⟩) u.length c2] 103)) ⟨n, i, none⟩) ∧ Ext (w.alloc (.cells #[.bool false, .slice p1 r.length c1, .slice (some ⟨b, off, none⟩) u.length c2] 103)) w') ((refine S_of_ext ?_; (repeat (first | exact Ext.refl _ | refine Ext.up ?_ _ | refine Ext.alloc ?_ _ | refine Ext.drew ?_ | refine Ext.setRow ?_ (by first | (dsimp only; omega) | exact LeS.le | exact LeS.add _ | (simp; done) | (simp; omega)) _ | refine Ext.setCell ?_ (by first | (dsimp only; omega) | exact LeS.le | exact LeS.add _ | (simp; done) | (simp; omega)) _)); done)) (((refine step_pushL fI (by rfl) (.tmp 43) (.tmp 56) (by rfl) encI encI_length _ [x.k, x.v] ([0, (r.length : Int)] ++ entNums r ++ entNums (u.take k)) (by rfl) (Hown.out.up (by repeat (first | exact Ext.refl _ | refine Ext.up ?_ _ | refine Ext.alloc ?_ _ | refine Ext.drew ?_ | refine Ext.setRow ?_ (by first | (dsimp only; omega) | exact LeS.le | exact LeS.add _ | (simp; done) | (simp; omega)) _ | refine Ext.setCell ?_ (by first | (dsimp only; omega) | exact LeS.le | exact LeS.add _ | (simp; done) | (simp; omega)) _))) (by repeat (first | exact Ext.refl _ | refine Ext.up ?_ _ | refine Ext.alloc ?_ _ | refine Ext.drew ?_ | refine Ext.setRow ?_ (by first | (dsimp only; omega) | exact LeS.le | exact LeS.add _ | (simp; done) | (simp; omega)) _ | refine Ext.setCell ?_ (by first | (dsimp only; omega) | exact LeS.le | exact LeS.add _ | (simp; done) | (simp; omega)) _)) (by rfl) (by rfl) (by decide) (by go_simp) (by rfl) (oneIs _) (by have := Hle.out; simp at this ⊢; omega) (by have := Hle.out; simp at this ⊢; omega) ?_; intro v1 z1 hown1))))
            have hown2 := Lib.hid hown1; clear hown1
            go_wp2_with fail
            go_roundw
            case rel => exact ⟨k + 1, by go_num, by omega, (.of (by repeat (first | (with_reducible exact Ext.refl _) | (with_reducible refine Ext.up ?_ _) | (with_reducible refine Ext.alloc ?_ _) | (with_reducible refine Ext.drew ?_) | (with_reducible refine Ext.setRow ?_ (by first | exact LeS.le | exact LeS.add _ | (simp; done) | (simp; omega)) _) | (with_reducible refine Ext.setCell ?_ (by first | exact LeS.le | exact LeS.add _ | (simp; done) | (simp; omega)) _)))), by rw [Hx.out, ← List.append_assoc]; exact hown2.out⟩
            case measure => simp [intOf]; omega
          · obtain rfl : k = u.length := by omega
            rw [List.take_length] at Hown
            clear hcr hcu
            go_wp2_with (go_at_call 102; refine (sSumOf_any 3 _ _ _ (Hown.out.sl encI_length)).mono ?_; rintro e w' ⟨rfl, rfl⟩)
            go_ret
            exact ⟨rfl, (.of (by repeat (first | (with_reducible exact Ext.refl _) | (with_reducible refine Ext.up ?_ _) | (with_reducible refine Ext.alloc ?_ _) | (with_reducible refine Ext.drew ?_) | (with_reducible refine Ext.setRow ?_ (by first | exact LeS.le | exact LeS.add _ | (simp; done) | (simp; omega)) _) | (with_reducible refine Ext.setCell ?_ (by first | exact LeS.le | exact LeS.add _ | (simp; done) | (simp; omega)) _))))⟩
  · go_wp2_with fail
    go_loopw [3, 4] (fun s3 s4 wr => ∃ k : Nat, s4 = .int .i64 k ∧ k ≤ r.length ∧ Up (w.alloc (.cells #[.bool true, .slice p1 r.length c1, .slice p2 u.length c2] 103)) wr ∧ Own encI 3 1 (w.alloc (.cells #[.bool true, .slice p1 r.length c1, .slice p2 u.length c2] 103)).heap.size wr s3 ([1, (r.length : Int)] ++ entNums (r.take k))) (fun _ s4 _ => r.length - (intOf s4).toNat)
    case atStart => exact ⟨0, rfl, Nat.zero_le _, (.of (by repeat (first | (with_reducible exact Ext.refl _) | (with_reducible refine Ext.up ?_ _) | (with_reducible refine Ext.alloc ?_ _) | (with_reducible refine Ext.drew ?_) | (with_reducible refine Ext.setRow ?_ (by first | exact LeS.le | exact LeS.add _ | (simp; done) | (simp; omega)) _) | (with_reducible refine Ext.setCell ?_ (by first | exact LeS.le | exact LeS.add _ | (simp; done) | (simp; omega)) _)))), by simpa [entNums] using (Own.lit (lo := (w.alloc (.cells #[.bool true, .slice p1 r.length c1, .slice p2 u.length c2] 103)).heap.size) rfl (Nat.le_refl _) rfl rfl encI_length (by simp) : Own encI 3 1 (w.alloc (.cells #[.bool true, .slice p1 r.length c1, .slice p2 u.length c2] 103)).heap.size ((w.alloc (.cells #[.bool true, .slice p1 r.length c1, .slice p2 u.length c2] 103)).alloc (.cells #[.int .i64 1, .int .i64 r.length] 3)) (.slice (some ⟨(w.alloc (.cells #[.bool true, .slice p1 r.length c1, .slice p2 u.length c2] 103)).heap.size, 0, none⟩) 2 2) [1, (r.length : Int)])⟩
    case round =>
      obtain ⟨k, rfl, hk, ⟨z, rfl⟩, hown⟩ := hrel
      have Hown := Lib.hid hown; clear hown
      by_cases hlt : k < r.length
      · obtain ⟨x, hxk⟩ := getElem?_some_of_lt hlt
        obtain ⟨b, off, rfl, hb, hcc⟩ := hcr k x hxk
        have e0 : w.cell? ⟨b, off + k * 2, none⟩ = some (.int .i64 x.k) := hcc 0 _ rfl
        have e1 : w.cell? ⟨b, off + k * 2 + 1, none⟩ = some (.int .i64 x.v) := hcc 1 _ rfl
        have k0 : (0 : Int) ≤ (k : Int) := by omega
        have k1 : (k : Int) < r.length := by omega
        have Hx := Lib.hid (entNums_snoc hxk)
        have hle : ([1, (r.length : Int)] ++ entNums (r.take k)).length ≤ 10000 := by simp only [List.length_append, entNums_length, List.length_take, List.length_cons, List.length_nil]; omega
        have Hle := Lib.hid hle
        clear hcr hcu hxk hle hcc
        go_wp2_with fail
        (go_region_held3 (fun w' => (∀ n i, ∀ [LtS n (w.alloc (.cells #[.bool true, .slice (some ⟨b, off, none⟩) r.length c1, .slice p2 u.length c2] 103))], w'.cell? ⟨n, i, none⟩ = World.cell? (w.alloc (.cells #[.bool true, .slice (some ⟨b, off, none⟩) r.length c1, .slice p2 u.length c2] 103)) ⟨n, i, none⟩) ∧ Ext (w.alloc (.cells #[.bool true, .slice (some ⟨b, off, none⟩) r.length c1, .slice p2 u.length c2] 103)) w') ((refine S_of_ext ?_; (repeat (first | exact Ext.refl _ | refine Ext.up ?_ _ | refine Ext.alloc ?_ _ | refine Ext.drew ?_ | refine Ext.setRow ?_ (by first | (dsimp only; omega) | exact LeS.le | exact LeS.add _ | (simp; done) | (simp; omega)) _ | refine Ext.setCell ?_ (by first | (dsimp only; omega) | exact LeS.le | exact LeS.add _ | (simp; done) | (simp; omega)) _)); done)) (((refine step_pushL fI (by rfl) (.tmp 21) (.tmp 34) (by rfl) encI encI_length _ [x.k, x.v] ([1, (r.length : Int)] ++ entNums (r.take k)) (by rfl) (Hown.out.up (by repeat (first | exact Ext.refl _ | refine Ext.up ?_ _ | refine Ext.alloc ?_ _ | refine Ext.drew ?_ | refine Ext.setRow ?_ (by first | (dsimp only; omega) | exact LeS.le | exact LeS.add _ | (simp; done) | (simp; omega)) _ | refine Ext.setCell ?_ (by first | (dsimp only; omega) | exact LeS.le | exact LeS.add _ | (simp; done) | (simp; omega)) _))) (by repeat (first | exact Ext.refl _ | refine Ext.up ?_ _ | refine Ext.alloc ?_ _ | refine Ext.drew ?_ | refine Ext.setRow ?_ (by first | (dsimp only; omega) | exact LeS.le | exact LeS.add _ | (simp; done) | (simp; omega)) _ | refine Ext.setCell ?_ (by first | (dsimp only; omega) | exact LeS.le | exact LeS.add _ | (simp; done) | (simp; omega)) _)) (by rfl) (by rfl) (by decide) (by go_simp) (by rfl) (oneIs _) (by have := Hle.out; simp at this ⊢; omega) (by have := Hle.out; simp at this ⊢; omega) ?_; intro v1 z1 hown1))))
        have hown2 := Lib.hid hown1; clear hown1
        go_wp2_with fail
        go_roundw
        case rel => exact ⟨k + 1, by go_num, by omega, (.of (by repeat (first | (with_reducible exact Ext.refl _) | (with_reducible refine Ext.up ?_ _) | (with_reducible refine Ext.alloc ?_ _) | (with_reducible refine Ext.drew ?_) | (with_reducible refine Ext.setRow ?_ (by first | exact LeS.le | exact LeS.add _ | (simp; done) | (simp; omega)) _) | (with_reducible refine Ext.setCell ?_ (by first | exact LeS.le | exact LeS.add _ | (simp; done) | (simp; omega)) _)))), by rw [Hx.out, ← List.append_assoc]; exact hown2.out⟩
        case measure => simp [intOf]; omega
      · obtain rfl : k = r.length := by omega
        rw [List.take_length] at Hown
        go_wp2_with fail
        go_loopw [3, 5] (fun s3 s4 wr => ∃ k : Nat, s4 = .int .i64 k ∧ k ≤ u.length ∧ Up (w.alloc (.cells #[.bool true, .slice p1 r.length c1, .slice p2 u.length c2] 103)) wr ∧ Own encI 3 1 (w.alloc (.cells #[.bool true, .slice p1 r.length c1, .slice p2 u.length c2] 103)).heap.size wr s3 ([1, (r.length : Int)] ++ entNums r ++ entNums (u.take k))) (fun _ s4 _ => u.length - (intOf s4).toNat)
        case atStart => exact ⟨0, rfl, Nat.zero_le _, ⟨z, rfl⟩, by simpa [entNums] using Hown.out⟩
        case round =>
          obtain ⟨k, rfl, hk, ⟨z, rfl⟩, hown⟩ := hrel
          have Hown := Lib.hid hown; clear hown
          by_cases hlt : k < u.length
          · obtain ⟨x, hxk⟩ := getElem?_some_of_lt hlt
            obtain ⟨b, off, rfl, hb, hcc⟩ := hcu k x hxk
            have e0 : w.cell? ⟨b, off + k * 2, none⟩ = some (.int .i64 x.k) := hcc 0 _ rfl
            have e1 : w.cell? ⟨b, off + k * 2 + 1, none⟩ = some (.int .i64 x.v) := hcc 1 _ rfl
            have k0 : (0 : Int) ≤ (k : Int) := by omega
            have k1 : (k : Int) < u.length := by omega
            have Hx := Lib.hid (entNums_snoc hxk)
            have hle : ([1, (r.length : Int)] ++ entNums r ++ entNums (u.take k)).length ≤ 10000 := by simp only [List.length_append, entNums_length, List.length_take, List.length_cons, List.length_nil]; omega
            have Hle := Lib.hid hle
            clear hcr hcu hxk hle hcc
            go_wp2_with fail
            (go_region_held3 (fun w' => (∀ n i, ∀ [LtS n (w.alloc (.cells #[.bool true, .slice p1 r.length c1, .slice (some ⟨b, off, none⟩) u.length c2] 103))], w'.cell? ⟨n, i, none⟩ = World.cell? (w.alloc (.cells #[.bool true, .slice p1 r.length c1, .slice (some ⟨b, off, none⟩) u.length c2] 103)) ⟨n, i, none⟩) ∧ Ext (w.alloc (.cells #[.bool true, .slice p1 r.length c1, .slice (some ⟨b, off, none⟩) u.length c2] 103)) w') ((refine S_of_ext ?_; (repeat (first | exact Ext.refl _ | refine Ext.up ?_ _ | refine Ext.alloc ?_ _ | refine Ext.drew ?_ | refine Ext.setRow ?_ (by first | (dsimp only; omega) | exact LeS.le | exact LeS.add _ | (simp; done) | (simp; omega)) _ | refine Ext.setCell ?_ (by first | (dsimp only; omega) | exact LeS.le | exact LeS.add _ | (simp; done) | (simp; omega)) _)); done)) (((refine step_pushL fI (by rfl) (.tmp 43) (.tmp 56) (by rfl) encI encI_length _ [x.k, x.v] ([1, (r.length : Int)] ++ entNums r ++ entNums (u.take k)) (by rfl) (Hown.out.up (by repeat (first | exact Ext.refl _ | refine Ext.up ?_ _ | refine Ext.alloc ?_ _ | refine Ext.drew ?_ | refine Ext.setRow ?_ (by first | (dsimp only; omega) | exact LeS.le | exact LeS.add _ | (simp; done) | (simp; omega)) _ | refine Ext.setCell ?_ (by first | (dsimp only; omega) | exact LeS.le | exact LeS.add _ | (simp; done) | (simp; omega)) _))) (by repeat (first | exact Ext.refl _ | refine Ext.up ?_ _ | refine Ext.alloc ?_ _ | refine Ext.drew ?_ | refine Ext.setRow ?_ (by first | (dsimp only; omega) | exact LeS.le | exact LeS.add _ | (simp; done) | (simp; omega)) _ | refine Ext.setCell ?_ (by first | (dsimp only; omega) | exact LeS.le | exact LeS.add _ | (simp; done) | (simp; omega)) _)) (by rfl) (by rfl) (by decide) (by go_simp) (by rfl) (oneIs _) (by have := Hle.out; simp at this ⊢; omega) (by have := Hle.out; simp at this ⊢; omega) ?_; intro v1 z1 hown1))))
            have hown2 := Lib.hid hown1; clear hown1
            go_wp2_with fail
            go_roundw
            case rel => exact ⟨k + 1, by go_num, by omega, (.of (by repeat (first | (with_reducible exact Ext.refl _) | (with_reducible refine Ext.up ?_ _) | (with_reducible refine Ext.alloc ?_ _) | (with_reducible refine Ext.drew ?_) | (with_reducible refine Ext.setRow ?_ (by first | exact LeS.le | exact LeS.add _ | (simp; done) | (simp; omega)) _) | (with_reducible refine Ext.setCell ?_ (by first | exact LeS.le | exact LeS.add _ | (simp; done) | (simp; omega)) _)))), by rw [Hx.out, ← List.append_assoc]; exact hown2.out⟩
            case measure => simp [intOf]; omega
          · obtain rfl : k = u.length := by omega
            rw [List.take_length] at Hown
            clear hcr hcu
            go_wp2_with (go_at_call 102; refine (sSumOf_any 3 _ _ _ (Hown.out.sl encI_length)).mono ?_; rintro e w' ⟨rfl, rfl⟩)
            go_ret
            exact ⟨rfl, (.of (by repeat (first | (with_reducible exact Ext.refl _) | (with_reducible refine Ext.up ?_ _) | (with_reducible refine Ext.alloc ?_ _) | (with_reducible refine Ext.drew ?_) | (with_reducible refine Ext.setRow ?_ (by first | exact LeS.le | exact LeS.add _ | (simp; done) | (simp; omega)) _) | (with_reducible refine Ext.setCell ?_ (by first | exact LeS.le | exact LeS.add _ | (simp; done) | (simp; omega)) _))))⟩
set_option maxRecDepth 100000 in
set_option maxHeartbeats 2000000 in
theorem sEffectsSum_any (es : List Eff) (v : Value) (w : World) (h : SE w v es) (hl : es.length ≤ 1000) (hs : ∀ x ∈ es, x.r.length ≤ 1000 ∧ x.w.length ≤ 1000) :
    Calls Try.prog 63 #[v] w fun e w' => e = .returned (.int .i64 (effsSum es)) ∧ Up w w' := by
  obtain ⟨p, c, rfl, _, _, hc⟩ := h.open
  clear h
  have Hs := Lib.hid hs; clear hs
  go_enter Try.func63, Try.ntmps63
  go_wp2_with fail
  go_loopw [3, 4] (fun s3 s4 wr => ∃ k : Nat, s4 = .int .i64 k ∧ k ≤ es.length ∧ Up w wr ∧ Own encI 3 1 w.heap.size wr s3 ((es.take k).map effSum)) (fun _ s4 _ => es.length - (intOf s4).toNat)
  case atStart => exact ⟨0, rfl, Nat.zero_le _, (.of (by repeat (first | (with_reducible exact Ext.refl _) | (with_reducible refine Ext.up ?_ _) | (with_reducible refine Ext.alloc ?_ _) | (with_reducible refine Ext.drew ?_) | (with_reducible refine Ext.setRow ?_ (by first | exact LeS.le | exact LeS.add _ | (simp; done) | (simp; omega)) _) | (with_reducible refine Ext.setCell ?_ (by first | exact LeS.le | exact LeS.add _ | (simp; done) | (simp; omega)) _)))), Own.lit rfl (Nat.le_refl _) rfl rfl encI_length (by simp)⟩
  case round =>
    obtain ⟨k, rfl, hk, ⟨z, rfl⟩, hown⟩ := hrel
    have Hown := Lib.hid hown; clear hown
    have hlk : ((es.take k).map effSum).length ≤ 1000 := by rw [List.length_map, List.length_take]; omega
    by_cases hlt : k < es.length
    · obtain ⟨x, hxk⟩ := getElem?_some_of_lt hlt
      obtain ⟨b, off, q1, d1, q2, d2, rfl, hb, e0, e1, e2, s1, s2⟩ := hc k x hxk
      obtain ⟨l1, l2⟩ := Hs.out x (List.mem_of_getElem? hxk)
      have S1 := Lib.hid s1; have S2 := Lib.hid s2; have Hx := Lib.hid (effSums_snoc hxk)
      have k0 : (0 : Int) ≤ (k : Int) := by omega
      have k1 : (k : Int) < es.length := by omega
      clear hc hxk s1 s2
      go_wp2_with (first | (go_at_call 101; refine (sEffectSum_any x.d _ _ x.r x.w _ (S1.out.up (by repeat (first | (with_reducible exact Ext.refl _) | (with_reducible refine Ext.up ?_ _) | (with_reducible refine Ext.alloc ?_ _) | (with_reducible refine Ext.drew ?_) | (with_reducible refine Ext.setRow ?_ (by first | exact LeS.le | exact LeS.add _ | (simp; done) | (simp; omega)) _) | (with_reducible refine Ext.setCell ?_ (by first | exact LeS.le | exact LeS.add _ | (simp; done) | (simp; omega)) _)))) (S2.out.up (by repeat (first | (with_reducible exact Ext.refl _) | (with_reducible refine Ext.up ?_ _) | (with_reducible refine Ext.alloc ?_ _) | (with_reducible refine Ext.drew ?_) | (with_reducible refine Ext.setRow ?_ (by first | exact LeS.le | exact LeS.add _ | (simp; done) | (simp; omega)) _) | (with_reducible refine Ext.setCell ?_ (by first | exact LeS.le | exact LeS.add _ | (simp; done) | (simp; omega)) _)))) l1 l2).mono ?_; rintro e w' ⟨rfl, z1, rfl⟩) | (at_builtin; refine wpList_push1 fI rfl (.tmp 12) (.tmp 18) rfl encI w (effSum x) ((es.take k).map effSum) rfl (Hown.out.up (by repeat (first | (with_reducible exact Ext.refl _) | (with_reducible refine Ext.up ?_ _) | (with_reducible refine Ext.alloc ?_ _) | (with_reducible refine Ext.drew ?_) | (with_reducible refine Ext.setRow ?_ (by first | exact LeS.le | exact LeS.add _ | (simp; done) | (simp; omega)) _) | (with_reducible refine Ext.setCell ?_ (by first | exact LeS.le | exact LeS.add _ | (simp; done) | (simp; omega)) _)))) (by repeat (first | (with_reducible exact Ext.refl _) | (with_reducible refine Ext.up ?_ _) | (with_reducible refine Ext.alloc ?_ _) | (with_reducible refine Ext.drew ?_) | (with_reducible refine Ext.setRow ?_ (by first | exact LeS.le | exact LeS.add _ | (simp; done) | (simp; omega)) _) | (with_reducible refine Ext.setCell ?_ (by first | exact LeS.le | exact LeS.add _ | (simp; done) | (simp; omega)) _))) rfl (by go_simp) rfl rfl (oneI _) (by omega) (by omega) ?_; intro v7 z7 o7))
      have O7 := Lib.hid o7; clear o7
      go_wp2_with fail
      go_roundw
      case rel => exact ⟨k + 1, by go_num, by omega, (.of (by repeat (first | (with_reducible exact Ext.refl _) | (with_reducible refine Ext.up ?_ _) | (with_reducible refine Ext.alloc ?_ _) | (with_reducible refine Ext.drew ?_) | (with_reducible refine Ext.setRow ?_ (by first | exact LeS.le | exact LeS.add _ | (simp; done) | (simp; omega)) _) | (with_reducible refine Ext.setCell ?_ (by first | exact LeS.le | exact LeS.add _ | (simp; done) | (simp; omega)) _)))), by rw [Hx.out]; exact O7.out⟩
      case measure => simp [intOf]; omega
    · obtain rfl : k = es.length := by omega
      rw [List.take_length] at Hown
      clear hc
      by_cases h10 : es.length ≤ 10
      · have hq : decide ((10 : Int) < es.length) = false := by simp; omega
        have he : effsSum es = sumOf 4 (es.map effSum) := by unfold effsSum; rw [if_pos h10]
        go_wp2_with (go_at_call 102; refine (sSumOf_any 4 _ _ _ (Hown.out.sl encI_length)).mono ?_; rintro e w' ⟨rfl, rfl⟩)
        go_ret
        exact ⟨by rw [he]; rfl, (.of (by repeat (first | (with_reducible exact Ext.refl _) | (with_reducible refine Ext.up ?_ _) | (with_reducible refine Ext.alloc ?_ _) | (with_reducible refine Ext.drew ?_) | (with_reducible refine Ext.setRow ?_ (by first | exact LeS.le | exact LeS.add _ | (simp; done) | (simp; omega)) _) | (with_reducible refine Ext.setCell ?_ (by first | exact LeS.le | exact LeS.add _ | (simp; done) | (simp; omega)) _))))⟩
      · have hq : decide ((10 : Int) < es.length) = true := by simp; omega
        have he : effsSum es = -1 := by unfold effsSum; rw [if_neg h10]
        go_wp2_with fail
        go_ret
        exact ⟨by rw [he]; rfl, (.of (by repeat (first | (with_reducible exact Ext.refl _) | (with_reducible refine Ext.up ?_ _) | (with_reducible refine Ext.alloc ?_ _) | (with_reducible refine Ext.drew ?_) | (with_reducible refine Ext.setRow ?_ (by first | exact LeS.le | exact LeS.add _ | (simp; done) | (simp; omega)) _) | (with_reducible refine Ext.setCell ?_ (by first | exact LeS.le | exact LeS.add _ | (simp; done) | (simp; omega)) _))))⟩
end Go.Proofs.Ytphkimbhjfjjkaa
