/- Walks: runs in an order, the reference's side (printed by wip/mkros.py). -/
import Derived.Test.YtkboefmkfpnpjaaGCflTop28
set_option linter.unusedSimpArgs false
set_option linter.unusedVariables false
namespace Go.Proofs.Ytkboefmkfpnpjaa
open Go Go.RowKit Go.Proofs

theorem zip_snoc {α β : Type} {a : List α} {b : List β} {x : α} {y : β} (h : a.length = b.length) : (a ++ [x]).zip (b ++ [y]) = a.zip b ++ [(x, y)] := by
  rw [List.zip_append h]; rfl
set_option maxRecDepth 100000 in
set_option maxHeartbeats 2000000 in
theorem sRunOrder_any (s : List Ent) (l : List Actn) (o : List Int) (v vl vo : Value) (w : World) (h : SL (RF Ent.enc) 2 w v s) (hl : SL (RF Actn.enc) 4 w vl l) (ho : SL (RF encI) 1 w vo o) :
    Calls Try.prog 24 #[v, vl, vo] w fun e w' => ∃ v1 v2, e = .returned (.tuple #[v1, v2]) ∧ Up w w' ∧ Own Ent.enc 31 2 w.heap.size w' v1 (roS s l o) ∧ SE w' v2 (roEs s l o) := by
  have H := Lib.hid h; have HL := Lib.hid hl; have HO := Lib.hid ho
  obtain ⟨p, c, rfl, _, _⟩ := h.openc
  obtain ⟨p3, c3, rfl, hll, hcl⟩ := hl.open
  obtain ⟨p4, c4, rfl, hlo, hco⟩ := ho.open
  have kv := fun w (h : SL (RF Ent.enc) 2 w (.slice p s.length c) s) => sStoreValid_any s _ w h
  have kf := fun w h h' => sOrderFits_any l o (.slice p3 l.length c3) (.slice p4 o.length c4) w h h'
  have Hcl := Lib.hid hcl; have Hco := Lib.hid hco
  clear h hl ho hcl hco
  unfold roS roEs
  rcases guards2 (entsOk 1 s) (ordOk l o) with h1 | ⟨h1, h2⟩ | ⟨h1, h2⟩
  · have hr : roOk s l o = false := by unfold roOk; rw [h1]; rfl
    rw [hr, if_neg (by decide), if_neg (by decide)]
    simp only [h1] at kv
    clear h1 hr
    go_enter Try.func24, Try.ntmps24
    go_wp2_with (first | (go_at_call 26; refine (kv _ (H.out.up (by repeat (first | (with_reducible exact Ext.refl _) | (with_reducible refine Ext.up ?_ _) | (with_reducible refine Ext.alloc ?_ _) | (with_reducible refine Ext.drew ?_) | (with_reducible refine Ext.setRow ?_ (by first | exact LeS.le | exact LeS.add _ | (simp; done) | (simp; omega)) _) | (with_reducible refine Ext.setCell ?_ (by first | exact LeS.le | exact LeS.add _ | (simp; done) | (simp; omega)) _))))).mono ?_; rintro e w' ⟨rfl, z1, rfl⟩) | (go_at_call 27; refine (kf _ (HL.out.up (by repeat (first | (with_reducible exact Ext.refl _) | (with_reducible refine Ext.up ?_ _) | (with_reducible refine Ext.alloc ?_ _) | (with_reducible refine Ext.drew ?_) | (with_reducible refine Ext.setRow ?_ (by first | exact LeS.le | exact LeS.add _ | (simp; done) | (simp; omega)) _) | (with_reducible refine Ext.setCell ?_ (by first | exact LeS.le | exact LeS.add _ | (simp; done) | (simp; omega)) _)))) (HO.out.up (by repeat (first | (with_reducible exact Ext.refl _) | (with_reducible refine Ext.up ?_ _) | (with_reducible refine Ext.alloc ?_ _) | (with_reducible refine Ext.drew ?_) | (with_reducible refine Ext.setRow ?_ (by first | exact LeS.le | exact LeS.add _ | (simp; done) | (simp; omega)) _) | (with_reducible refine Ext.setCell ?_ (by first | exact LeS.le | exact LeS.add _ | (simp; done) | (simp; omega)) _))))).mono ?_; rintro e w' ⟨rfl, z2, rfl⟩))
    refine bodyPost_ret (v := .tuple #[.slice (some ⟨z1.val.heap.size, 0, none⟩) 0 0, .slice (some ⟨z1.val.heap.size + 1, 0, none⟩) 0 0]) (by simp [results, Try.results24, go_sem]) rfl ?_
    exact ⟨_, _, rfl, (.of (by repeat (first | (with_reducible exact Ext.refl _) | (with_reducible refine Ext.up ?_ _) | (with_reducible refine Ext.alloc ?_ _) | (with_reducible refine Ext.drew ?_) | (with_reducible refine Ext.setRow ?_ (by first | exact LeS.le | exact LeS.add _ | (simp; done) | (simp; omega)) _) | (with_reducible refine Ext.setCell ?_ (by first | exact LeS.le | exact LeS.add _ | (simp; done) | (simp; omega)) _)))), (own_row0 (heap_alloc2_old _ _ _) (Nat.le_refl _)).lo LeS.le, SE.nil _ _ _⟩
  · have hr : roOk s l o = false := by unfold roOk; rw [h1, h2]; rfl
    rw [hr, if_neg (by decide), if_neg (by decide)]
    simp only [h1] at kv
    simp only [h2] at kf
    clear h1 h2 hr
    go_enter Try.func24, Try.ntmps24
    go_wp2_with (first | (go_at_call 26; refine (kv _ (H.out.up (by repeat (first | (with_reducible exact Ext.refl _) | (with_reducible refine Ext.up ?_ _) | (with_reducible refine Ext.alloc ?_ _) | (with_reducible refine Ext.drew ?_) | (with_reducible refine Ext.setRow ?_ (by first | exact LeS.le | exact LeS.add _ | (simp; done) | (simp; omega)) _) | (with_reducible refine Ext.setCell ?_ (by first | exact LeS.le | exact LeS.add _ | (simp; done) | (simp; omega)) _))))).mono ?_; rintro e w' ⟨rfl, z1, rfl⟩) | (go_at_call 27; refine (kf _ (HL.out.up (by repeat (first | (with_reducible exact Ext.refl _) | (with_reducible refine Ext.up ?_ _) | (with_reducible refine Ext.alloc ?_ _) | (with_reducible refine Ext.drew ?_) | (with_reducible refine Ext.setRow ?_ (by first | exact LeS.le | exact LeS.add _ | (simp; done) | (simp; omega)) _) | (with_reducible refine Ext.setCell ?_ (by first | exact LeS.le | exact LeS.add _ | (simp; done) | (simp; omega)) _)))) (HO.out.up (by repeat (first | (with_reducible exact Ext.refl _) | (with_reducible refine Ext.up ?_ _) | (with_reducible refine Ext.alloc ?_ _) | (with_reducible refine Ext.drew ?_) | (with_reducible refine Ext.setRow ?_ (by first | exact LeS.le | exact LeS.add _ | (simp; done) | (simp; omega)) _) | (with_reducible refine Ext.setCell ?_ (by first | exact LeS.le | exact LeS.add _ | (simp; done) | (simp; omega)) _))))).mono ?_; rintro e w' ⟨rfl, z2, rfl⟩))
    refine bodyPost_ret (v := .tuple #[.slice (some ⟨z2.val.heap.size, 0, none⟩) 0 0, .slice (some ⟨z2.val.heap.size + 1, 0, none⟩) 0 0]) (by simp [results, Try.results24, go_sem]) rfl ?_
    exact ⟨_, _, rfl, (.of (by repeat (first | (with_reducible exact Ext.refl _) | (with_reducible refine Ext.up ?_ _) | (with_reducible refine Ext.alloc ?_ _) | (with_reducible refine Ext.drew ?_) | (with_reducible refine Ext.setRow ?_ (by first | exact LeS.le | exact LeS.add _ | (simp; done) | (simp; omega)) _) | (with_reducible refine Ext.setCell ?_ (by first | exact LeS.le | exact LeS.add _ | (simp; done) | (simp; omega)) _)))), (own_row0 (heap_alloc2_old _ _ _) (Nat.le_refl _)).lo LeS.le, SE.nil _ _ _⟩
  have hr : roOk s l o = true := by unfold roOk; rw [h1, h2]; rfl
  rw [hr, if_pos rfl, if_pos rfl]
  simp only [h1] at kv
  simp only [h2] at kf
  obtain ⟨hlk, hol, hoi⟩ := ordOk_parts h2
  have hlen := actsOk_len hlk
  have hls := entsOk_len h1
  have Hvi := Lib.hid (valsOf_in (entsOk_least (by decide) h1))
  have Hok := Lib.hid h1; have Hlk := Lib.hid hlk; have Hoi := Lib.hid hoi; have Hoo := Lib.hid h2
  have Hol := Lib.hid hol
  have hl10 : o.length ≤ 10 := by omega
  have tok : True := trivial
  clear h1 h2 hr hlk hoi hol
  go_enter Try.func24, Try.ntmps24
  go_wp2_with (first | (go_at_call 26; refine (kv _ (H.out.up (by repeat (first | (with_reducible exact Ext.refl _) | (with_reducible refine Ext.up ?_ _) | (with_reducible refine Ext.alloc ?_ _) | (with_reducible refine Ext.drew ?_) | (with_reducible refine Ext.setRow ?_ (by first | exact LeS.le | exact LeS.add _ | (simp; done) | (simp; omega)) _) | (with_reducible refine Ext.setCell ?_ (by first | exact LeS.le | exact LeS.add _ | (simp; done) | (simp; omega)) _))))).mono ?_; rintro e w' ⟨rfl, z1, rfl⟩) | (go_at_call 27; refine (kf _ (HL.out.up (by repeat (first | (with_reducible exact Ext.refl _) | (with_reducible refine Ext.up ?_ _) | (with_reducible refine Ext.alloc ?_ _) | (with_reducible refine Ext.drew ?_) | (with_reducible refine Ext.setRow ?_ (by first | exact LeS.le | exact LeS.add _ | (simp; done) | (simp; omega)) _) | (with_reducible refine Ext.setCell ?_ (by first | exact LeS.le | exact LeS.add _ | (simp; done) | (simp; omega)) _)))) (HO.out.up (by repeat (first | (with_reducible exact Ext.refl _) | (with_reducible refine Ext.up ?_ _) | (with_reducible refine Ext.alloc ?_ _) | (with_reducible refine Ext.drew ?_) | (with_reducible refine Ext.setRow ?_ (by first | exact LeS.le | exact LeS.add _ | (simp; done) | (simp; omega)) _) | (with_reducible refine Ext.setCell ?_ (by first | exact LeS.le | exact LeS.add _ | (simp; done) | (simp; omega)) _))))).mono ?_; rintro e w' ⟨rfl, z2, rfl⟩) | (at_make; refine wpList_mkEff rfl _ _ rfl l.length rfl rfl (by omega) ?_; intro z3 oe3; have OE3 := Lib.hid oe3; clear oe3) | (at_builtin; refine wpList_clone fEnt Ent.enc Ent.enc_length (lo := z3.val.heap.size) s rfl (.tmp 26) (.tmp 27) rfl rfl rfl (heap_alloc_new _ _) (Nat.le_refl _) (H.out.up (by repeat (first | (with_reducible exact Ext.refl _) | (with_reducible refine Ext.up ?_ _) | (with_reducible refine Ext.alloc ?_ _) | (with_reducible refine Ext.drew ?_) | (with_reducible refine Ext.setRow ?_ (by first | exact LeS.le | exact LeS.add _ | (simp; done) | (simp; omega)) _) | (with_reducible refine Ext.setCell ?_ (by first | exact LeS.le | exact LeS.add _ | (simp; done) | (simp; omega)) _)))) (oneEs' _) (by omega) (by omega) ?_; intro v4 z4 o4 b4; clear b4))
  have hg2 : w.heap.size ≤ z2.val.heap.size := LeS.le
  have AP4 := Lib.hid (Apart.of_lt OE3.out.1 o4 (Nat.le_refl _)).symm
  have O4 := Lib.hid (o4.lo (lo' := w.heap.size) LeS.le); clear o4
  have OE4 := Lib.hid ((OE3.out.up (show Ext z3.val z4.val from (by repeat (first | (with_reducible exact Ext.refl _) | (with_reducible refine Ext.up ?_ _) | (with_reducible refine Ext.alloc ?_ _) | (with_reducible refine Ext.drew ?_) | (with_reducible refine Ext.setRow ?_ (by first | exact LeS.le | exact LeS.add _ | (simp; done) | (simp; omega)) _) | (with_reducible refine Ext.setCell ?_ (by first | exact LeS.le | exact LeS.add _ | (simp; done) | (simp; omega)) _))))).lo hg2)
  clear OE3
  have hgl : z2.val.heap.size < z4.val.heap.size := (World.ownsRow.lt OE4.out.1 _ rfl).2
  generalize z2.val.heap.size = g at *
  go_loopw [9, 10] (fun s9 s10 wr => ∃ (k : Nat) (ts : List TE), s10 = .int .i64 k ∧ k ≤ o.length ∧ Up w wr ∧ Own Ent.enc 31 2 w.heap.size wr s9 (storeOf (runAll (valsOf s) ((ordL l o).take k)).1) ∧ ts.length = k ∧ ts.map TE.core = (runAll (valsOf s) ((ordL l o).take k)).2 ∧ OE 40 31 w.heap.size wr (.slice (some ⟨g, 0, none⟩) l.length l.length) (effZ (List.replicate l.length zeroTE) ((o.take k).zip ts)) ∧ Apart s9 (.slice (some ⟨g, 0, none⟩) l.length l.length)) (fun _ s10 _ => o.length - (intOf s10).toNat)
  case atStart => exact ⟨0, [], rfl, Nat.zero_le _, (.of (by repeat (first | (with_reducible exact Ext.refl _) | (with_reducible refine Ext.up ?_ _) | (with_reducible refine Ext.alloc ?_ _) | (with_reducible refine Ext.drew ?_) | (with_reducible refine Ext.setRow ?_ (by first | exact LeS.le | exact LeS.add _ | (simp; done) | (simp; omega)) _) | (with_reducible refine Ext.setCell ?_ (by first | exact LeS.le | exact LeS.add _ | (simp; done) | (simp; omega)) _)))), by rw [show (runAll (valsOf s) ((ordL l o).take 0)).1 = valsOf s from rfl, storeOf_valsOf Hok.out]; exact O4.out, rfl, rfl, OE4.out, AP4.out⟩
  case round =>
    obtain ⟨k, ts, rfl, hk, ⟨z, rfl⟩, hown, htl, hts, hoe, hap⟩ := hrel
    have Hown := Lib.hid hown; have Htl := Lib.hid htl; have Hts := Lib.hid hts; have Hoe := Lib.hid hoe; have Hap := Lib.hid hap
    clear hown htl hts hoe hap
    by_cases hlt : k < o.length
    · obtain ⟨n, hn⟩ := getElem?_some_of_lt hlt
      obtain ⟨n0, n1⟩ := Hoi.out k n hn
      obtain ⟨x, hx⟩ := getElem?_some_of_lt (l := l) (k := n.toNat) (by omega)
      obtain ⟨b4, off4, rfl, hb4, hcc4⟩ := Hco.out k n hn
      have e0 : w.cell? ⟨b4, off4 + k, none⟩ = some (.int .i64 n) := by have := hcc4 0 _ rfl; simpa using this
      obtain ⟨b3, off3, hp3, hb3, _⟩ := Hcl.out n.toNat x hx
      obtain ⟨c0, c1, c2, c3'⟩ := acell Hcl.out hp3 hx
      subst hp3
      have hog := ordL_get hn hx
      have hxo : x.ok = true := ordL_ok Hoo.out x (List.mem_of_getElem? hog)
      have hVi : valsIn (runAll (valsOf s) ((ordL l o).take k)).1 := runAll_in Hvi.out fun y hy => ordL_ok Hoo.out y (List.mem_of_mem_take hy)
      have Hsn := Lib.hid (runAll_snoc (valsOf s) hog)
      have hzp : (o.take (k + 1)).zip (ts ++ [zeroTE]) = (o.take k).zip ts ++ [(n, zeroTE)] := by
        rw [List.take_add_one, hn]; exact zip_snoc (by rw [List.length_take, Htl.out]; omega)
      have Hz := Lib.hid (fun (q : TE) => show (o.take (k + 1)).zip (ts ++ [q]) = (o.take k).zip ts ++ [(n, q)] from by
        rw [List.take_add_one, hn]; exact zip_snoc (by rw [List.length_take, Htl.out]; omega))
      clear hzp
      generalize hR : runAll (valsOf s) ((ordL l o).take k) = R at *
      have kr := fun v w h => sRunAction_yes (storeOf R.1) x v w h (storeOf_ok hVi) hxo
      simp only [runE_store hVi hxo] at kr
      have ha := fun vr vw v w hs hu hr => sApplyEffect_yes (storeOf R.1) (runV R.1 x).w (runV R.1 x).d v vr vw w hs hu hr (storeOf_ok hVi) (runV_ok hVi hxo)
      rw [putAll_store hVi (fun e he => by have := entsOk_mem (runV_ok hVi hxo) he; omega)] at ha
      generalize hE : runV R.1 x = E at *
      have HE := Lib.hid hE
      have hacl : (effZ (List.replicate l.length zeroTE) ((o.take k).zip ts)).length = l.length := by rw [effZ_len, List.length_replicate]
      obtain ⟨acc, hacc⟩ : ∃ acc, acc = effZ (List.replicate l.length zeroTE) ((o.take k).zip ts) := ⟨_, rfl⟩
      rw [← hacc] at Hoe hacl
      have Hacc := Lib.hid hacc; clear hacc
      obtain ⟨y, hy⟩ := getElem?_some_of_lt (l := acc) (k := n.toNat) (by omega)
      have hrow : z.val.ownsRow w.heap.size 40 3 (.slice (some ⟨g, 0, none⟩) l.length l.length) l.length (acc.flatMap TE.enc) := by have := Hoe.out.1; rw [← hacl]; rw [← hacl] at this; exact this
      have d0 : z.val.cell? ⟨g, n.toNat * 3, none⟩ = some (.bool y.d) := (hrow.cellAt _ (by omega)).trans (flatMap_get TE.enc_length hy (j := 0) rfl)
      have d1 : z.val.cell? ⟨g, n.toNat * 3 + 1, none⟩ = some y.vr := (hrow.cellAt _ (by omega)).trans (flatMap_get TE.enc_length hy (j := 1) rfl)
      have d2 : z.val.cell? ⟨g, n.toNat * 3 + 2, none⟩ = some y.vw := (hrow.cellAt _ (by omega)).trans (flatMap_get TE.enc_length hy (j := 2) rfl)
      have f0 := hrow.frozenAt (n.toNat * 3)
      have f1 := hrow.frozenAt (n.toNat * 3 + 1)
      have f2 := hrow.frozenAt (n.toNat * 3 + 2)
      have hLg : LtS g z.val := LtS.of_some d0
      have k0 : (0 : Int) ≤ (k : Int) := by omega
      have k1 : (k : Int) < o.length := by omega
      have Hacl := Lib.hid hacl
      clear hn hx hcc4 hog hVi hxo hR hE hacl hy hrow
      go_wp2_with (first | ((go_at_call 76; refine (kr _ _ ((Hown.out.sl Ent.enc_length).up (by repeat (first | (with_reducible exact Ext.refl _) | (with_reducible refine Ext.up ?_ _) | (with_reducible refine Ext.alloc ?_ _) | (with_reducible refine Ext.drew ?_) | (with_reducible refine Ext.setRow ?_ (by first | exact LeS.le | exact LeS.add _ | (simp; done) | (simp; omega)) _) | (with_reducible refine Ext.setCell ?_ (by first | exact LeS.le | exact LeS.add _ | (simp; done) | (simp; omega)) _))))).mono ?_; rintro e w' ⟨vr, vw, rfl, ⟨z5, rfl⟩, q1, q2, ap⟩); obtain ⟨p1, cc1, rfl, _, _⟩ := (q1.sl Ent.enc_length).openc; obtain ⟨p2, cc2, rfl, _, _⟩ := (q2.sl Ent.enc_length).openc; have Q1 := Lib.hid q1; have Q2 := Lib.hid q2; clear q1 q2 ap) | ((go_at_call 77; refine (ha _ _ _ _ ((Hown.out.sl Ent.enc_length).up (by repeat (first | (with_reducible exact Ext.refl _) | (with_reducible refine Ext.up ?_ _) | (with_reducible refine Ext.alloc ?_ _) | (with_reducible refine Ext.drew ?_) | (with_reducible refine Ext.setRow ?_ (by first | exact LeS.le | exact LeS.add _ | (simp; done) | (simp; omega)) _) | (with_reducible refine Ext.setCell ?_ (by first | exact LeS.le | exact LeS.add _ | (simp; done) | (simp; omega)) _)))) ((Q2.out.sl Ent.enc_length).up (by repeat (first | (with_reducible exact Ext.refl _) | (with_reducible refine Ext.up ?_ _) | (with_reducible refine Ext.alloc ?_ _) | (with_reducible refine Ext.drew ?_) | (with_reducible refine Ext.setRow ?_ (by first | exact LeS.le | exact LeS.add _ | (simp; done) | (simp; omega)) _) | (with_reducible refine Ext.setCell ?_ (by first | exact LeS.le | exact LeS.add _ | (simp; done) | (simp; omega)) _)))) ⟨_, _, _, rfl⟩).mono ?_; rintro e w' ⟨v8, rfl, ⟨z6, rfl⟩, o8⟩); have O8 := Lib.hid o8; clear o8))
      have hb4l := hb4.lt
      have hgz : g < z.val.heap.size := hLg.lt
      have hz5 : z.val.heap.size ≤ z5.val.heap.size := by have := z5.ext.size; first | omega | (simp at this; omega)
      have hNb : NeS b4 g := ⟨by omega⟩
      have hNe : NeS z5.val.heap.size g := ⟨by omega⟩
      refine wp_region_held_drew (S := (fun w' => (∀ n i, ∀ [LtS n z6.val] [NeS n g], w'.cell? ⟨n, i, none⟩ = World.cell? z6.val ⟨n, i, none⟩) ∧ World.grownBy z6.val w' (some g))) (by kernel_rfl) ?_ (fun hHeld => ?_)
      · (try dsimp only)
        refine S_of_gb ?_
        first | (refine GB.drew (grownBy_trans (grownBy_trans (grownBy_trans (grownBy_refl _ _) (grownBy_set _ _ _)) (grownBy_set _ _ _)) (grownBy_set _ _ _))) | (refine grownBy_trans (grownBy_trans (grownBy_trans ?_ (grownBy_set _ _ _)) (grownBy_set _ _ _)) (grownBy_set _ _ _); (repeat (first | (with_reducible exact grownBy_refl _ _) | (with_reducible refine GB.setNew ?_ (by first | exact LeS.le | exact LeS.add _ | (simp; done) | (simp; omega)) _ _) | (with_reducible refine GB.alloc ?_ _) | (with_reducible refine GB.drew ?_) | (with_reducible refine GB.upR ?_ _) | (with_reducible refine GB.up ?_ _))); done) | ((repeat (first | (with_reducible exact grownBy_refl _ _) | (with_reducible refine GB.setNew ?_ (by first | exact LeS.le | exact LeS.add _ | (simp; done) | (simp; omega)) _ _) | (with_reducible refine GB.alloc ?_ _) | (with_reducible refine GB.drew ?_) | (with_reducible refine GB.upR ?_ _) | (with_reducible refine GB.up ?_ _))); done)
      refine wpAnyH_take (i := 0) (v := ?_) (opAt rfl) (by kernel_rfl) (by kernel_rfl) (by kernel_rfl) (fun _ _ _ h => h) (Or.inl ⟨by rfl, ?_⟩) (by assumption) ?_
      rotate_left
      · (intro w hSw; (try dsimp only at hSw); go_simp) <;> with_reducible rfl
      try simp only [Act.put, List.setIfInBounds_toArray, List.set_cons_zero, List.set_cons_succ]
      refine wpAnyH_take (i := 1) (v := ?_) (opAt rfl) (by kernel_rfl) (by kernel_rfl) (by kernel_rfl) (fun _ _ _ h => h) (Or.inl ⟨by rfl, ?_⟩) (by assumption) ?_
      rotate_left
      · (intro w hSw; (try dsimp only at hSw); go_simp) <;> with_reducible rfl
      try simp only [Act.put, List.setIfInBounds_toArray, List.set_cons_zero, List.set_cons_succ]
      refine wpAnyH_take (i := 2) (v := ?_) (opAt rfl) (by kernel_rfl) (by kernel_rfl) (by kernel_rfl) (fun _ _ _ h => h) (Or.inl ⟨by rfl, ?_⟩) (by assumption) ?_
      rotate_left
      · (intro w hSw; (try dsimp only at hSw); go_simp) <;> with_reducible rfl
      try simp only [Act.put, List.setIfInBounds_toArray, List.set_cons_zero, List.set_cons_succ]
      refine wpAnyH_take (i := 3) (v := ?_) (opAt rfl) (by kernel_rfl) (by kernel_rfl) (by kernel_rfl) (fun _ _ _ h => h) (Or.inl ⟨by rfl, ?_⟩) (by assumption) ?_
      rotate_left
      · (intro w hSw; (try dsimp only at hSw); go_simp) <;> with_reducible rfl
      try simp only [Act.put, List.setIfInBounds_toArray, List.set_cons_zero, List.set_cons_succ]
      refine wpAnyH_take (i := 4) (v := ?_) (opAt rfl) (by kernel_rfl) (by kernel_rfl) (by kernel_rfl) (fun _ _ _ h => h) (Or.inl ⟨by rfl, ?_⟩) (by assumption) ?_
      rotate_left
      · (intro w hSw; (try dsimp only at hSw); go_simp) <;> with_reducible rfl
      try simp only [Act.put, List.setIfInBounds_toArray, List.set_cons_zero, List.set_cons_succ]
      refine wpAnyH_take (i := 5) (v := ?_) (opAt rfl) (by kernel_rfl) (by kernel_rfl) (by kernel_rfl) (fun _ _ _ h => h) (Or.inl ⟨by rfl, ?_⟩) (by assumption) ?_
      rotate_left
      · (intro w hSw; (try dsimp only at hSw); go_simp) <;> with_reducible rfl
      try simp only [Act.put, List.setIfInBounds_toArray, List.set_cons_zero, List.set_cons_succ]
      refine wpAnyH_take (i := 6) (v := ?_) (opAt rfl) (by kernel_rfl) (by kernel_rfl) (by kernel_rfl) (fun _ _ _ h => h) (Or.inl ⟨by rfl, ?_⟩) (by assumption) ?_
      rotate_left
      · (intro w hSw; (try dsimp only at hSw); go_simp) <;> with_reducible rfl
      try simp only [Act.put, List.setIfInBounds_toArray, List.set_cons_zero, List.set_cons_succ]
      refine wpAnyH_ready (rs := [7]) (by kernel_rfl) (by simp) ?_
      refine AllReadyH.cons (opAt rfl) (fun K hK => ?_) ?_
      · go_simp
        refine hK.out _ _ ?_ (fun hHeld1 => ?_)
        · (try dsimp only)
          refine S_of_gb ?_
          first | (refine GB.drew (grownBy_trans (grownBy_trans (grownBy_trans (grownBy_refl _ _) (grownBy_set _ _ _)) (grownBy_set _ _ _)) (grownBy_set _ _ _))) | (refine grownBy_trans (grownBy_trans (grownBy_trans ?_ (grownBy_set _ _ _)) (grownBy_set _ _ _)) (grownBy_set _ _ _); (repeat (first | (with_reducible exact grownBy_refl _ _) | (with_reducible refine GB.setNew ?_ (by first | exact LeS.le | exact LeS.add _ | (simp; done) | (simp; omega)) _ _) | (with_reducible refine GB.alloc ?_ _) | (with_reducible refine GB.drew ?_) | (with_reducible refine GB.upR ?_ _) | (with_reducible refine GB.up ?_ _))); done) | ((repeat (first | (with_reducible exact grownBy_refl _ _) | (with_reducible refine GB.setNew ?_ (by first | exact LeS.le | exact LeS.add _ | (simp; done) | (simp; omega)) _ _) | (with_reducible refine GB.alloc ?_ _) | (with_reducible refine GB.drew ?_) | (with_reducible refine GB.upR ?_ _) | (with_reducible refine GB.up ?_ _))); done)
        clear hK K hHeld
        have hHeld := hHeld1; clear hHeld1
        try simp only [Act.put, List.setIfInBounds_toArray, List.set_cons_zero, List.set_cons_succ]
        refine wpAnyH_done (by kernel_rfl) ?_ _
        go_wp2_with fail
        have HE6 : Ext w z6.val := (by repeat (first | (with_reducible exact Ext.refl _) | (with_reducible refine Ext.up ?_ _) | (with_reducible refine Ext.alloc ?_ _) | (with_reducible refine Ext.drew ?_) | (with_reducible refine Ext.setRow ?_ (by first | exact LeS.le | exact LeS.add _ | (simp; done) | (simp; omega)) _) | (with_reducible refine Ext.setCell ?_ (by first | exact LeS.le | exact LeS.add _ | (simp; done) | (simp; omega)) _)))
        have HEz : Ext z.val z6.val := (by repeat (first | (with_reducible exact Ext.refl _) | (with_reducible refine Ext.up ?_ _) | (with_reducible refine Ext.alloc ?_ _) | (with_reducible refine Ext.drew ?_) | (with_reducible refine Ext.setRow ?_ (by first | exact LeS.le | exact LeS.add _ | (simp; done) | (simp; omega)) _) | (with_reducible refine Ext.setCell ?_ (by first | exact LeS.le | exact LeS.add _ | (simp; done) | (simp; omega)) _)))
        have N8 := O8.out.ne_rb (rb := g) (by simp [setCell_sz]; omega)
        have M1 : Apart (.slice p1 E.r.length cc1) (.slice (some ⟨g, 0, none⟩) l.length l.length) := Q1.out.ne_rb (rb := g) (by first | omega | (simp; omega))
        have M2 : Apart (.slice p2 E.w.length cc2) (.slice (some ⟨g, 0, none⟩) l.length l.length) := Q2.out.ne_rb (rb := g) (by first | omega | (simp; omega))
        have hO := OE.put (k := n.toNat) (x := ⟨E.d, .slice p1 E.r.length cc1, .slice p2 E.w.length cc2, E.r, E.w⟩) (Hoe.out.up HEz) Hacl.out.symm (by rw [Hacl.out]; omega) ((Q1.out.up (by repeat (first | (with_reducible exact Ext.refl _) | (with_reducible refine Ext.up ?_ _) | (with_reducible refine Ext.alloc ?_ _) | (with_reducible refine Ext.drew ?_) | (with_reducible refine Ext.setRow ?_ (by first | exact LeS.le | exact LeS.add _ | (simp; done) | (simp; omega)) _) | (with_reducible refine Ext.setCell ?_ (by first | exact LeS.le | exact LeS.add _ | (simp; done) | (simp; omega)) _)))).lo (by first | exact LeS.le | omega)) M1 ((Q2.out.up (by repeat (first | (with_reducible exact Ext.refl _) | (with_reducible refine Ext.up ?_ _) | (with_reducible refine Ext.alloc ?_ _) | (with_reducible refine Ext.drew ?_) | (with_reducible refine Ext.setRow ?_ (by first | exact LeS.le | exact LeS.add _ | (simp; done) | (simp; omega)) _) | (with_reducible refine Ext.setCell ?_ (by first | exact LeS.le | exact LeS.add _ | (simp; done) | (simp; omega)) _)))).lo (by first | exact LeS.le | omega)) M2
        have HOp := Lib.hid hO
        clear hO
        go_roundw
        case rel =>
          refine ⟨k + 1, ts ++ [⟨E.d, .slice p1 E.r.length cc1, .slice p2 E.w.length cc2, E.r, E.w⟩], by go_num, by omega, .of (Ext.drew (Ext.setCell (Ext.setCell (Ext.setCell HE6 hg2 _) hg2 _) hg2 _)), ?_, by rw [List.length_append, Htl.out]; rfl, ?_, ?_, N8⟩
          · rw [Hsn.out]
            show Own Ent.enc 31 2 w.heap.size _ v8 (storeOf (vsets R.1 (runV R.1 x).w))
            rw [HE.out]
            exact (Own.up (((O8.out.ap _ _ N8).ap _ _ N8).ap _ _ N8) (Ext.refl _).drew).lo (by first | exact LeS.le | (simp [setCell_sz]; omega))
          · rw [Hsn.out]
            show _ = R.2 ++ [runV R.1 x]
            rw [HE.out, List.map_append, Hts.out]; rfl
          · rw [Hz.out, effZ_append, ← Hacc.out]
            exact HOp.out.up (Ext.refl _).drew
        case measure => simp [intOf]; omega
      exact AllReadyH.nil
    · obtain rfl : k = o.length := by omega
      have e1 : (ordL l o).take o.length = ordL l o := by rw [← ordL_len l o, List.take_length]
      rw [e1] at Hown Hts
      rw [List.take_length] at Hoe
      have hfin : (effZ (List.replicate l.length zeroTE) (o.zip ts)).map TE.core = roE s l o := by
        unfold roE roP
        rw [effZ_map, ← Hts.out, List.map_replicate]
        congr 1
        rw [List.zip_map_right]
        rfl
      have Hfin := Lib.hid hfin; clear hfin
      go_wp2_with fail
      refine bodyPost_ret (v := .tuple #[u9, .slice (some ⟨g, 0, none⟩) l.length l.length]) (by simp [results, Try.results24, go_sem]) rfl ?_
      refine ⟨_, _, rfl, ⟨z, rfl⟩, Hown.out, ?_⟩
      have := Hoe.out.se
      rw [Hfin.out] at this
      exact this
end Go.Proofs.Ytkboefmkfpnpjaa
