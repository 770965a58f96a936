/- Walks: the layers of a tree, the reference's side. -/
import Derived.Test.YteiemjebdhmnaaaGreatGLxTop27
import Derived.Test.YteiemjebdhmnaaaGreatGLxTop25
import Derived.Test.YteiemjebdhmnaaaGreatGLxTop26
set_option linter.unusedSimpArgs false
set_option linter.unusedVariables false
namespace Go.Proofs.YteiemjebdhmnaaaGreat
open Go Go.RowKit Go.Proofs

theorem fLyr : AppFacts Tryz.prog 29 66 2 32 := by
  have h : (Tryz.prog.info? 66).map (fun i => (i.zero, i.size, i.bytes)) = some (some (.agg #[.int .i64 0, .slice none 0 0]), 2, 32) := by kernel_rfl
  obtain ⟨i0, hi, hz0, hz1, hz2⟩ := info_parts h
  exact ⟨Tryz.underlying29, ⟨i0, _, hi, hz0, hz1, hz2, rfl⟩, by decide⟩
/-- Effects of the call's own, opened. -/
theorem OE.openW {eT eE lo : Nat} {w : World} {v : Value} {ts : List TE} (h : OE eT eE lo w v ts) : ∃ a cap, v = .slice a ts.length cap ∧ ts.length ≤ 9223372036854775807 ∧ ∀ (k : Nat) x, ts[k]? = some x → ∃ b off p c p' c', a = some ⟨b, off, none⟩ ∧ lo ≤ b ∧ LtS b w ∧
    w.cell? ⟨b, off + k * 3, none⟩ = some (.bool x.d) ∧ w.cell? ⟨b, off + k * 3 + 1, none⟩ = some (.slice p x.r.length c) ∧ w.cell? ⟨b, off + k * 3 + 2, none⟩ = some (.slice p' x.w.length c') ∧ x.w.length ≤ 9223372036854775807 ∧
    ∀ (i : Nat) e, x.w[i]? = some e → ∃ b' off', p' = some ⟨b', off', none⟩ ∧ lo ≤ b' ∧ LtS b' w ∧ w.cell? ⟨b', off' + i * 2, none⟩ = some (.int .i64 e.k) ∧ w.cell? ⟨b', off' + i * 2 + 1, none⟩ = some (.int .i64 e.v) := by
  obtain ⟨a, cap, rfl, hl, hc⟩ := (h.1.sl TE.enc_length).open
  refine ⟨a, cap, rfl, hl, fun k x hx => ?_⟩
  obtain ⟨b, off, rfl, hb, hcc⟩ := hc k x hx
  obtain ⟨⟨o1, _⟩, ⟨o2, _⟩⟩ := h.2 x (List.mem_of_getElem? hx)
  obtain ⟨p, c, hv, _, _⟩ := (o1.sl Ent.enc_length).openc
  obtain ⟨p', c', hv', hl', hcw⟩ := (o2.sl Ent.enc_length).open
  have d1 : w.cell? ⟨b, off + k * 3 + 1, none⟩ = some x.vr := hcc 1 _ rfl
  have d2 : w.cell? ⟨b, off + k * 3 + 2, none⟩ = some x.vw := hcc 2 _ rfl
  rw [hv] at d1; rw [hv'] at d2
  refine ⟨b, off, p, c, p', c', rfl, (World.ownsRow.lt h.1 b rfl).1, hb, hcc 0 _ rfl, d1, d2, hl', fun i e he => ?_⟩
  obtain ⟨b', off', rfl, hb', hdd⟩ := hcw i e he
  exact ⟨b', off', rfl, (World.ownsRow.lt o2 b' (by rw [hv']; rfl)).1, hb', hdd 0 _ rfl, hdd 1 _ rfl⟩
theorem valsOf_front {t : Tree} (h : t.ok = true) {n : Nat} (hn : n < t.bs.length) : valsOf (frontS t n) = frontV t n := by
  rw [← frontS_V h hn, valsOf_storeOf (frontV_in h n)]
theorem seen_front {t : Tree} (h : t.ok = true) {n : Nat} (hn : n < t.bs.length) : storeOf (seenV t.base (lyrsTo t n) (prAt t n)) = frontS t n := by
  by_cases h0 : n = 0
  · subst h0
    have := Tree.pr_zero h
    rw [seenV_neg _ _ (by unfold prAt; rw [getD_of this]; omega), storeOf_valsOf (base_ok h)]; rfl
  · obtain ⟨m, _, hpa, hmn, hN⟩ := link_at h h0 hn
    rw [hpa, lyr_seen h (by omega) m hmn]
    unfold frontS
    rw [if_neg h0, hpa, storeR_yes h hN]
theorem lyrsTo_okk {t : Tree} (h : t.ok = true) {k : Nat} (hk : k ≤ t.bs.length) : lyrsOk (lyrsTo t k) = true := by
  have := (Tree.lens h).2.2
  exact lyrsOk_iff.2 ⟨lyrsTo_ok h hk, by rw [lyrsTo_len]; omega⟩
theorem putW_len {u : List Ent} (hu : ∀ e ∈ u, 0 ≤ e.k ∧ e.k ≤ 31) : (putW [] u).length ≤ 32 := by
  rw [putW_wr (V := zeros) zeros_length hu]; exact wrTo_len _ _ _
theorem allW_snoc {es : List Eff} {k : Nat} {x : Eff} (h : es[k]? = some x) : allW (es.take (k + 1)) = allW (es.take k) ++ x.w := by
  rw [List.take_add_one, h]; simp [allW]
/-- What stands in the middle of the writes of some effects. -/
theorem putW_mid {es : List Eff} (hes : ∀ e ∈ es, entsOk 0 e.w = true) {j : Nat} {x : Eff} (hx : es[j]? = some x) (i : Nat) : (putW [] (allW (es.take j) ++ x.w.take i)).length ≤ 32 := by
  refine putW_len fun e he => ?_
  rcases List.mem_append.1 he with he | he
  · have := allW_in (es := es.take j) (fun y hy => hes y (List.mem_of_mem_take hy)) e he
    exact ⟨this.1, this.2.1⟩
  · have := entsOk_mem (hes x (List.mem_of_getElem? hx)) (List.mem_of_mem_take he)
    exact ⟨this.1, this.2.1⟩
set_option maxRecDepth 100000 in
set_option maxHeartbeats 4000000 in
theorem sBranchLayers_any (t : Tree) (v0 v1 v2 : Value) (w : World) (h : ST w v0 v1 v2 t) :
    Calls Tryz.prog 8 #[.agg #[v0, v1, v2]] w fun e w' => ∃ v', e = .returned v' ∧ Up w w' ∧ SY w' v' (lyrsR t) := by
  obtain ⟨p0, c0, rfl, _, _⟩ := h.base.openc
  obtain ⟨p1, c1, rfl, hl1, _, hc1⟩ := h.bs.open
  obtain ⟨p2, c2, rfl, hlp, hcp⟩ := h.pr.open
  have H := Lib.hid h; have HB := Lib.hid h.base
  have kv := fun w h => sTreeValid_any t (.slice p0 t.base.length c0) (.slice p1 t.bs.length c1) (.slice p2 t.pr.length c2) w h
  have Hc1 := Lib.hid hc1; have Hcp := Lib.hid hcp
  clear h hc1 hcp
  unfold lyrsR
  rcases hok : t.ok with _ | _
  · simp only [hok] at kv
    clear hok
    rw [if_neg (by decide)]
    go_enter Tryz.func8, Tryz.ntmps8
    go_wp2_with fail
    go_loopw [3, 4, 5, 6, 7, 8, 9, 10] (fun s3 s4 _ _ _ _ _ _ wr => (∃ g, s3 = .slice (some ⟨g, 0, none⟩) 0 0) ∧ s4 = .int .i64 0 ∧ Up (w.alloc (.cells #[.slice p0 t.base.length c0, .slice p1 t.bs.length c1, .slice p2 t.pr.length c2] 27)) wr) (fun _ _ _ _ _ _ _ _ _ => 0)
    case atStart => exact ⟨⟨_, rfl⟩, rfl, (.of (by repeat (first | (with_reducible exact Ext.refl _) | (with_reducible refine Ext.up ?_ _) | (with_reducible refine Ext.alloc ?_ _) | (with_reducible refine Ext.drew ?_) | (with_reducible refine Ext.setRow ?_ (by first | exact LeS.le | exact LeS.add _ | (simp; done) | (simp; omega)) _) | (with_reducible refine Ext.setCell ?_ (by first | exact LeS.le | exact LeS.add _ | (simp; done) | (simp; omega)) _))))⟩
    case round =>
      obtain ⟨⟨g, rfl⟩, rfl, ⟨z, rfl⟩⟩ := hrel
      go_wp2_with ((go_at_call 9; refine (kv _ (H.out.up (by repeat (first | (with_reducible exact Ext.refl _) | (with_reducible refine Ext.up ?_ _) | (with_reducible refine Ext.alloc ?_ _) | (with_reducible refine Ext.drew ?_) | (with_reducible refine Ext.setRow ?_ (by first | exact LeS.le | exact LeS.add _ | (simp; done) | (simp; omega)) _) | (with_reducible refine Ext.setCell ?_ (by first | exact LeS.le | exact LeS.add _ | (simp; done) | (simp; omega)) _))))).mono ?_; rintro e w' ⟨rfl, z4, rfl⟩))
      go_ret
      exact ⟨_, rfl, (.of (by repeat (first | (with_reducible exact Ext.refl _) | (with_reducible refine Ext.up ?_ _) | (with_reducible refine Ext.alloc ?_ _) | (with_reducible refine Ext.drew ?_) | (with_reducible refine Ext.setRow ?_ (by first | exact LeS.le | exact LeS.add _ | (simp; done) | (simp; omega)) _) | (with_reducible refine Ext.setCell ?_ (by first | exact LeS.le | exact LeS.add _ | (simp; done) | (simp; omega)) _)))), SY.nil _ _ _⟩
  rw [if_pos rfl]
  simp only [hok] at kv
  have Hok := Lib.hid hok
  have hb14 := (Tree.lens hok).2.2
  have Hpl := Lib.hid (Tree.lens hok).1
  clear hok
  go_enter Tryz.func8, Tryz.ntmps8
  go_wp2_with fail
  go_loopw [3, 4, 5, 6, 7, 8, 9, 10] (fun s3 s4 _ _ _ _ _ _ wr => ∃ (k : Nat) (ts : List TL), s4 = .int .i64 k ∧ k ≤ t.bs.length ∧ Up (w.alloc (.cells #[.slice p0 t.base.length c0, .slice p1 t.bs.length c1, .slice p2 t.pr.length c2] 27)) wr ∧ OY 66 64 (w.alloc (.cells #[.slice p0 t.base.length c0, .slice p1 t.bs.length c1, .slice p2 t.pr.length c2] 27)).heap.size wr s3 ts ∧ ts.map TL.core = lyrsTo t k) (fun _ s4 _ _ _ _ _ _ _ => t.bs.length - (intOf s4).toNat)
  case atStart => exact ⟨0, [], rfl, Nat.zero_le _, (.of (by repeat (first | (with_reducible exact Ext.refl _) | (with_reducible refine Ext.up ?_ _) | (with_reducible refine Ext.alloc ?_ _) | (with_reducible refine Ext.drew ?_) | (with_reducible refine Ext.setRow ?_ (by first | exact LeS.le | exact LeS.add _ | (simp; done) | (simp; omega)) _) | (with_reducible refine Ext.setCell ?_ (by first | exact LeS.le | exact LeS.add _ | (simp; done) | (simp; omega)) _)))), ⟨own_row (heap_alloc2_new _ _ _) (by simp) rfl rfl TL.enc_length (by decide), by simp⟩, rfl⟩
  case round =>
    obtain ⟨k, ts, rfl, hk, ⟨z, rfl⟩, hoy, hts⟩ := hrel
    have htl : ts.length = k := by rw [← List.length_map (f := TL.core), hts, lyrsTo_len]
    have hsy := hoy.sy
    rw [hts] at hsy
    by_cases hlt : k < t.bs.length
    · obtain ⟨y, hyk⟩ := getElem?_some_of_lt hlt
      obtain ⟨b, off, q, d, rfl, hb, f0, f1, f2, f3, f4, f5, hx⟩ := Hc1.out k y hyk
      obtain ⟨P, hP⟩ := getElem?_some_of_lt (l := t.pr) (k := k) (by have := Hpl.out; omega)
      obtain ⟨b2, off2, rfl, hb2, hcc2⟩ := Hcp.out k _ hP
      have e0 : w.cell? ⟨b2, off2 + k, none⟩ = some (.int .i64 P) := by have := hcc2 0 _ rfl; simpa using this
      have hpa : prAt t k = P := getD_of hP
      have hbnd := prAt_bound Hok.out hlt
      have hsf := seen_front Hok.out hlt
      rw [hpa] at hbnd hsf
      obtain ⟨p3, c3, rfl⟩ := hsy.openc
      have kl := fun w h h' => sLayerStore_yes t.base (lyrsTo t k) (.slice p0 t.base.length c0) (.slice p3 (lyrsTo t k).length c3) P w h h' (base_ok Hok.out) (lyrsTo_okk Hok.out hk) hbnd.1 (by rw [lyrsTo_len]; omega)
      rw [hsf] at kl
      have kr := fun v w h h' => sRunSerial_yes (frontS t k) y.2 v (.slice q y.2.length d) w h h' (front_ok Hok.out hlt) (acts_ok Hok.out hyk)
      rw [valsOf_front Hok.out hlt] at kr
      have hes := runAll_effs (frontV_in Hok.out k) (acts_mem (acts_ok Hok.out hyk))
      have hel := runAll_len (frontV t k) y.2
      have hyl := actsOk_len (acts_ok Hok.out hyk)
      have hlo := lyrOf_eq hyk
      rw [hpa] at hlo
      have hts2 : (ts ++ [(⟨P, .slice none 0 0, putW [] (allW (runAll (frontV t k) y.2).2)⟩ : TL)]).map TL.core = lyrsTo t (k + 1) := by rw [lyrsTo, hlo, List.map_append, hts]; rfl
      generalize hE : runAll (frontV t k) y.2 = E at *
      generalize frontS t k = FS at *
      rw [lyrsTo_len] at *
      generalize hLL : lyrsTo t k = LL at *
      have Hx := Lib.hid hx; have HSY := Lib.hid hsy; have HOY := Lib.hid hoy; have HT2 := Lib.hid hts2; have HES := Lib.hid hes
      have k0 : (0 : Int) ≤ (k : Int) := by omega
      have k1 : (k : Int) < t.pr.length := by have := Hpl.out; omega
      have k2 : (k : Int) < t.bs.length := by omega
      have hE10 : E.2.length ≤ 10 := by omega
      clear hx hsy hoy hts hts2 hes hel hyl hlo hE hLL hyk hP hpa hbnd hsf hcc2
      go_wp2_with (first | (go_at_call 9; refine (kv _ (H.out.up (by repeat (first | (with_reducible exact Ext.refl _) | (with_reducible refine Ext.up ?_ _) | (with_reducible refine Ext.alloc ?_ _) | (with_reducible refine Ext.drew ?_) | (with_reducible refine Ext.setRow ?_ (by first | exact LeS.le | exact LeS.add _ | (simp; done) | (simp; omega)) _) | (with_reducible refine Ext.setCell ?_ (by first | exact LeS.le | exact LeS.add _ | (simp; done) | (simp; omega)) _))))).mono ?_; rintro e w' ⟨rfl, z4, rfl⟩))
      (go_region_held3 (fun w' => (∀ n i, ∀ [LtS n (z4.val.alloc (.cells #[.int .i64 P, .slice none 0 0] 66))], w'.cell? ⟨n, i, none⟩ = World.cell? (z4.val.alloc (.cells #[.int .i64 P, .slice none 0 0] 66)) ⟨n, i, none⟩) ∧ Ext (z4.val.alloc (.cells #[.int .i64 P, .slice none 0 0] 66)) w') ((refine S_of_ext ?_; (repeat (first | (with_reducible exact Ext.refl _) | (with_reducible refine Ext.up ?_ _) | (with_reducible refine Ext.alloc ?_ _) | (with_reducible refine Ext.drew ?_) | (with_reducible refine Ext.setRow ?_ (by first | exact LeS.le | exact LeS.add _ | (simp; done) | (simp; omega)) _) | (with_reducible refine Ext.setCell ?_ (by first | exact LeS.le | exact LeS.add _ | (simp; done) | (simp; omega)) _))); done)) ((go_at_call 27; refine (kl _ (HB.out.up (by repeat (first | (with_reducible exact Ext.refl _) | (with_reducible refine Ext.up ?_ _) | (with_reducible refine Ext.alloc ?_ _) | (with_reducible refine Ext.drew ?_) | (with_reducible refine Ext.setRow ?_ (by first | exact LeS.le | exact LeS.add _ | (simp; done) | (simp; omega)) _) | (with_reducible refine Ext.setCell ?_ (by first | exact LeS.le | exact LeS.add _ | (simp; done) | (simp; omega)) _)))) (HSY.out.up (by repeat (first | (with_reducible exact Ext.refl _) | (with_reducible refine Ext.up ?_ _) | (with_reducible refine Ext.alloc ?_ _) | (with_reducible refine Ext.drew ?_) | (with_reducible refine Ext.setRow ?_ (by first | exact LeS.le | exact LeS.add _ | (simp; done) | (simp; omega)) _) | (with_reducible refine Ext.setCell ?_ (by first | exact LeS.le | exact LeS.add _ | (simp; done) | (simp; omega)) _))))).mono ?_; rintro e w' ⟨v5, rfl, ⟨z5, rfl⟩, o5⟩)))
      obtain ⟨p5, c5, rfl, _, _⟩ := (o5.sl Ent.enc_length).openc
      have O5 := Lib.hid (o5.sl Ent.enc_length)
      clear o5
      go_wp2_with (first | ((go_at_call 28; refine (kr _ _ (O5.out.up (by repeat (first | (with_reducible exact Ext.refl _) | (with_reducible refine Ext.up ?_ _) | (with_reducible refine Ext.alloc ?_ _) | (with_reducible refine Ext.drew ?_) | (with_reducible refine Ext.setRow ?_ (by first | exact LeS.le | exact LeS.add _ | (simp; done) | (simp; omega)) _) | (with_reducible refine Ext.setCell ?_ (by first | exact LeS.le | exact LeS.add _ | (simp; done) | (simp; omega)) _)))) (Hx.out.up (by repeat (first | (with_reducible exact Ext.refl _) | (with_reducible refine Ext.up ?_ _) | (with_reducible refine Ext.alloc ?_ _) | (with_reducible refine Ext.drew ?_) | (with_reducible refine Ext.setRow ?_ (by first | exact LeS.le | exact LeS.add _ | (simp; done) | (simp; omega)) _) | (with_reducible refine Ext.setCell ?_ (by first | exact LeS.le | exact LeS.add _ | (simp; done) | (simp; omega)) _))))).mono ?_; rintro e w' ⟨v6, v7, tsE, rfl, ⟨z7, rfl⟩, o6, oE, hE2, _⟩); obtain ⟨p6, c6, hv6, _, _⟩ := (o6.sl Ent.enc_length).openc; subst hv6; obtain ⟨p7, c7, hv7, _, hcE⟩ := oE.openW; subst hv7; have HcE := Lib.hid hcE; have HE2 := Lib.hid hE2; clear hcE o6 oE hE2))
      rw [← HE2.out] at HT2 HES hE10
      rw [List.length_map] at hE10
      have hz4 := z4.ext.size
      have hz5 := z5.ext.size
      have hz7 := z7.ext.size
      simp at hz4 hz5 hz7
      have hG7 : z7.val.heap[z4.val.heap.size]? = some (.cells #[.int .i64 P, .slice none 0 0] 66 (0, 0)) := (by repeat (first | (with_reducible exact heap_alloc_new _ _) | (with_reducible refine (Extd.row _ _).trans ?_) | (with_reducible refine (drew_row _ _).trans ?_) | (with_reducible refine (heap_alloc_old _ _ LtS.lt).trans ?_) | (with_reducible refine (heap_alloc_old _ _ (by simp; omega)).trans ?_)))
      have E07 : Ext z.val z7.val := (by repeat (first | (with_reducible exact Ext.refl _) | (with_reducible refine Ext.up ?_ _) | (with_reducible refine Ext.alloc ?_ _) | (with_reducible refine Ext.drew ?_) | (with_reducible refine Ext.setRow ?_ (by first | exact LeS.le | exact LeS.add _ | (simp; done) | (simp; omega)) _) | (with_reducible refine Ext.setCell ?_ (by first | exact LeS.le | exact LeS.add _ | (simp; done) | (simp; omega)) _)))
      have E17 : Ext (w.alloc (.cells #[.slice p0 t.base.length c0, .slice (some ⟨b, off, none⟩) t.bs.length c1, .slice (some ⟨b2, off2, none⟩) t.pr.length c2] 27)) z7.val := (by repeat (first | (with_reducible exact Ext.refl _) | (with_reducible refine Ext.up ?_ _) | (with_reducible refine Ext.alloc ?_ _) | (with_reducible refine Ext.drew ?_) | (with_reducible refine Ext.setRow ?_ (by first | exact LeS.le | exact LeS.add _ | (simp; done) | (simp; omega)) _) | (with_reducible refine Ext.setCell ?_ (by first | exact LeS.le | exact LeS.add _ | (simp; done) | (simp; omega)) _)))
      have hGz : z.val.heap.size ≤ z4.val.heap.size := by omega
      have hG5 : z4.val.heap.size < z5.val.heap.size := by omega
      have hG77 : z4.val.heap.size < z7.val.heap.size := by omega
      have hzw : w.heap.size < z.val.heap.size := by have := z.ext.size; simp at this; omega
      generalize z4.val.heap.size = G at *
      have HG7 := Lib.hid hG7; have H07 := Lib.hid E07; have H17 := Lib.hid E17
      have hLG7 : LtS G z7.val := ⟨hG77⟩
      clear hG7 E07 E17 kl kr HE2 hz4 hz5
      go_loopw [9, 10] (fun s9 _ wr => ∃ (j : Nat) (u : Value), s9 = .int .i64 j ∧ j ≤ tsE.length ∧ (∃ z' : ExtR G z7.val, wr = z'.val) ∧ wr.heap[G]? = some (.cells #[.int .i64 P, u] 66 (0, 0)) ∧ Own Ent.enc 64 2 z7.val.heap.size wr u (putW [] (allW ((tsE.map TE.core).take j)))) (fun s9 _ _ => tsE.length - (intOf s9).toNat)
      case atStart => exact ⟨0, _, rfl, Nat.zero_le _, ⟨⟨_, grownBy_refl _ _⟩, rfl⟩, HG7.out, Own.nil _ _ _ _ _⟩
      case round =>
        obtain ⟨j, u, rfl, hj, ⟨zj, rfl⟩, hrow, hu⟩ := hrel
        obtain ⟨pu, cu, rfl, _, _⟩ := (hu.sl Ent.enc_length).openc
        have hLGj : LtS G zj.val := inferInstance
        have HU := Lib.hid hu; have HROW := Lib.hid hrow
        by_cases hjl : j < tsE.length
        · obtain ⟨x, hxj⟩ := getElem?_some_of_lt hjl
          obtain ⟨bE, oE, pr, cr, pw, cw, rfl, hbE, hLE, g0, g1, g2, hxl, hcw⟩ := HcE.out j x hxj
          have hNE : NeS bE G := ⟨by omega⟩
          have y2 : zj.val.cell? ⟨bE, oE + j * 3 + 2, none⟩ = some (.slice pw x.w.length cw) := (zj.cell _ _).trans g2
          have hLEj : LtS bE zj.val := inferInstance
          have hxc : (tsE.map TE.core)[j]? = some x.core := by rw [List.getElem?_map, hxj]; rfl
          have hmid := Lib.hid (fun i => putW_mid (es := tsE.map TE.core) HES.out hxc i)
          have hsn := Lib.hid (allW_snoc hxc)
          have Hcw := Lib.hid hcw
          have j0 : (0 : Int) ≤ (j : Int) := by omega
          have j1 : (j : Int) < tsE.length := by omega
          generalize hAA : allW ((tsE.map TE.core).take j) = AA at *
          clear hxj hxc hcw hu hrow g0 g1 hAA
          go_wp2_with fail
          go_loopw [10] (fun s10 wr => ∃ (i : Nat) (u' : Value), s10 = .int .i64 i ∧ i ≤ x.w.length ∧ (∃ z' : ExtR G z7.val, wr = z'.val) ∧ wr.heap[G]? = some (.cells #[.int .i64 P, u'] 66 (0, 0)) ∧ Own Ent.enc 64 2 z7.val.heap.size wr u' (putW [] (AA ++ x.w.take i))) (fun s10 _ => x.w.length - (intOf s10).toNat)
          case atStart => exact ⟨0, _, rfl, Nat.zero_le _, ⟨zj, rfl⟩, HROW.out, by rw [List.take_zero, List.append_nil]; exact HU.out⟩
          case round =>
            obtain ⟨i, u', rfl, hi, ⟨zi, rfl⟩, hrow, hu⟩ := hrel
            obtain ⟨pi, ci, rfl, _, _⟩ := (hu.sl Ent.enc_length).openc
            have hLGi : LtS G zi.val := inferInstance
            have hLEi : LtS bE zi.val := inferInstance
            have y2i : zi.val.cell? ⟨bE, oE + j * 3 + 2, none⟩ = some (.slice pw x.w.length cw) := (zi.cell _ _).trans g2
            by_cases hil : i < x.w.length
            · obtain ⟨e, hei⟩ := getElem?_some_of_lt hil
              obtain ⟨bw, ow, rfl, hbw, hLw, q0, q1⟩ := Hcw.out i e hei
              have hNw : NeS bw G := ⟨by omega⟩
              have q0i : zi.val.cell? ⟨bw, ow + i * 2, none⟩ = some (.int .i64 e.k) := (zi.cell _ _).trans q0
              have q1i : zi.val.cell? ⟨bw, ow + i * 2 + 1, none⟩ = some (.int .i64 e.v) := (zi.cell _ _).trans q1
              have hLwi : LtS bw zi.val := inferInstance
              have gu : zi.val.cell? ⟨G, 1, none⟩ = some (.slice pi (putW [] (AA ++ x.w.take i)).length ci) := cell_of_row _ _ 1 _ _ _ hrow
              have fu : zi.val.frozen? ⟨G, 1, none⟩ = false := frozen_of_row _ _ 1 _ _ hrow
              have Hnx : Hid (putF false e.k e.v (putW [] (AA ++ x.w.take i)) = putW [] (AA ++ x.w.take (i + 1))) := Lib.hid (by rw [putW_append, putW_append]; exact (putW_snoc _ hei).symm)
              generalize hPW : putW [] (AA ++ x.w.take i) = PWi at *
              have hm32 : PWi.length ≤ 1073741824 := by rw [← hPW]; exact Nat.le_trans (hmid.out i) (by decide)
              have kp := fun w h => l4Put_any PWi (.slice pi PWi.length ci) e.k e.v w h hm32
              have HUi := Lib.hid hu; have HROWi := Lib.hid hrow
              have i0 : (0 : Int) ≤ (i : Int) := by omega
              have i1 : (i : Int) < x.w.length := by omega
              clear hu hrow hei hPW q0 q1
              go_wp2_with fail
              refine wp_region_held_drew (S := (fun w' => (∀ n i, ∀ [LtS n zi.val] [NeS n G], w'.cell? ⟨n, i, none⟩ = World.cell? zi.val ⟨n, i, none⟩) ∧ World.grownBy zi.val w' (some G))) (by kernel_rfl) ?_ (fun hHeld => ?_)
              · (try dsimp only)
                refine S_of_gb ?_
                first | (refine grownBy_trans ?_ (grownBy_set _ _ _); (repeat (first | (with_reducible exact grownBy_refl _ _) | (with_reducible refine GB.setNew ?_ (by first | exact LeS.le | exact LeS.add _ | (simp; done) | (simp; omega)) _ _) | (with_reducible refine GB.alloc ?_ _) | (with_reducible refine GB.drew ?_) | (with_reducible refine GB.upR ?_ _) | (with_reducible refine GB.up ?_ _))); done) | ((repeat (first | (with_reducible exact grownBy_refl _ _) | (with_reducible refine GB.setNew ?_ (by first | exact LeS.le | exact LeS.add _ | (simp; done) | (simp; omega)) _ _) | (with_reducible refine GB.alloc ?_ _) | (with_reducible refine GB.drew ?_) | (with_reducible refine GB.upR ?_ _) | (with_reducible refine GB.up ?_ _))); done)
              refine wpAnyH_take (i := 0) (v := ?_) (opAt rfl) (by kernel_rfl) (by kernel_rfl) (by kernel_rfl) (fun _ _ _ h => h) (Or.inl ⟨by rfl, ?_⟩) (by assumption) ?_
              rotate_left
              · (intro w hSw; (try dsimp only at hSw); go_simp) <;> with_reducible rfl
              try simp only [Act.put, List.setIfInBounds_toArray, List.set_cons_zero, List.set_cons_succ]
              refine wpAnyH_take (i := 2) (v := ?_) (opAt rfl) (by kernel_rfl) (by kernel_rfl) (by kernel_rfl) (fun _ _ _ h => h) (Or.inl ⟨by rfl, ?_⟩) (by assumption) ?_
              rotate_left
              · (intro w hSw; (try dsimp only at hSw); go_simp) <;> with_reducible rfl
              try simp only [Act.put, List.setIfInBounds_toArray, List.set_cons_zero, List.set_cons_succ]
              refine wpAnyH_take (i := 3) (v := ?_) (opAt rfl) (by kernel_rfl) (by kernel_rfl) (by kernel_rfl) (fun _ _ _ h => h) (Or.inl ⟨by rfl, ?_⟩) (by assumption) ?_
              rotate_left
              · (intro w hSw; (try dsimp only at hSw); go_simp) <;> with_reducible rfl
              try simp only [Act.put, List.setIfInBounds_toArray, List.set_cons_zero, List.set_cons_succ]
              refine wpAnyH_take (i := 4) (v := ?_) (opAt rfl) (by kernel_rfl) (by kernel_rfl) (by kernel_rfl) (fun _ _ _ h => h) (Or.inl ⟨by rfl, ?_⟩) (by assumption) ?_
              rotate_left
              · (intro w hSw; (try dsimp only at hSw); go_simp) <;> with_reducible rfl
              try simp only [Act.put, List.setIfInBounds_toArray, List.set_cons_zero, List.set_cons_succ]
              refine wpAnyH_take (i := 5) (v := ?_) (opAt rfl) (by kernel_rfl) (by kernel_rfl) (by kernel_rfl) (fun _ _ _ h => h) (Or.inl ⟨by rfl, ?_⟩) (by assumption) ?_
              rotate_left
              · (intro w hSw; (try dsimp only at hSw); go_simp) <;> with_reducible rfl
              try simp only [Act.put, List.setIfInBounds_toArray, List.set_cons_zero, List.set_cons_succ]
              refine wpAnyH_take (i := 6) (v := ?_) (opAt rfl) (by kernel_rfl) (by kernel_rfl) (by kernel_rfl) (fun _ _ _ h => h) (Or.inl ⟨by rfl, ?_⟩) (by assumption) ?_
              rotate_left
              · (intro w hSw; (try dsimp only at hSw); go_simp) <;> with_reducible rfl
              try simp only [Act.put, List.setIfInBounds_toArray, List.set_cons_zero, List.set_cons_succ]
              refine wpAnyH_take (i := 7) (v := ?_) (opAt rfl) (by kernel_rfl) (by kernel_rfl) (by kernel_rfl) (fun _ _ _ h => h) (Or.inl ⟨by rfl, ?_⟩) (by assumption) ?_
              rotate_left
              · (intro w hSw; (try dsimp only at hSw); go_simp) <;> with_reducible rfl
              try simp only [Act.put, List.setIfInBounds_toArray, List.set_cons_zero, List.set_cons_succ]
              refine wpAnyH_take (i := 8) (v := ?_) (opAt rfl) (by kernel_rfl) (by kernel_rfl) (by kernel_rfl) (fun _ _ _ h => h) (Or.inl ⟨by rfl, ?_⟩) (by assumption) ?_
              rotate_left
              · (intro w hSw; (try dsimp only at hSw); go_simp) <;> with_reducible rfl
              try simp only [Act.put, List.setIfInBounds_toArray, List.set_cons_zero, List.set_cons_succ]
              refine wpAnyH_take (i := 9) (v := ?_) (opAt rfl) (by kernel_rfl) (by kernel_rfl) (by kernel_rfl) (fun _ _ _ h => h) (Or.inl ⟨by rfl, ?_⟩) (by assumption) ?_
              rotate_left
              · (intro w hSw; (try dsimp only at hSw); go_simp) <;> with_reducible rfl
              try simp only [Act.put, List.setIfInBounds_toArray, List.set_cons_zero, List.set_cons_succ]
              refine wpAnyH_take (i := 10) (v := ?_) (opAt rfl) (by kernel_rfl) (by kernel_rfl) (by kernel_rfl) (fun _ _ _ h => h) (Or.inl ⟨by rfl, ?_⟩) (by assumption) ?_
              rotate_left
              · (intro w hSw; (try dsimp only at hSw); go_simp) <;> with_reducible rfl
              try simp only [Act.put, List.setIfInBounds_toArray, List.set_cons_zero, List.set_cons_succ]
              refine wpAnyH_take (i := 11) (v := ?_) (opAt rfl) (by kernel_rfl) (by kernel_rfl) (by kernel_rfl) (fun _ _ _ h => h) (Or.inl ⟨by rfl, ?_⟩) (by assumption) ?_
              rotate_left
              · (intro w hSw; (try dsimp only at hSw); go_simp) <;> with_reducible rfl
              try simp only [Act.put, List.setIfInBounds_toArray, List.set_cons_zero, List.set_cons_succ]
              refine wpAnyH_take (i := 12) (v := ?_) (opAt rfl) (by kernel_rfl) (by kernel_rfl) (by kernel_rfl) (fun _ _ _ h => h) (Or.inl ⟨by rfl, ?_⟩) (by assumption) ?_
              rotate_left
              · (intro w hSw; (try dsimp only at hSw); go_simp) <;> with_reducible rfl
              try simp only [Act.put, List.setIfInBounds_toArray, List.set_cons_zero, List.set_cons_succ]
              refine wpAnyH_take (i := 13) (v := ?_) (opAt rfl) (by kernel_rfl) (by kernel_rfl) (by kernel_rfl) (fun _ _ _ h => h) (Or.inl ⟨by rfl, ?_⟩) (by assumption) ?_
              rotate_left
              · (intro w hSw; (try dsimp only at hSw); go_simp) <;> with_reducible rfl
              try simp only [Act.put, List.setIfInBounds_toArray, List.set_cons_zero, List.set_cons_succ]
              refine wpAnyH_take (i := 14) (v := ?_) (opAt rfl) (by kernel_rfl) (by kernel_rfl) (by kernel_rfl) (fun _ _ _ h => h) (Or.inl ⟨by rfl, ?_⟩) (by assumption) ?_
              rotate_left
              · (intro w hSw; (try dsimp only at hSw); go_simp) <;> with_reducible rfl
              try simp only [Act.put, List.setIfInBounds_toArray, List.set_cons_zero, List.set_cons_succ]
              refine wpAnyH_take (i := 15) (v := ?_) (opAt rfl) (by kernel_rfl) (by kernel_rfl) (by kernel_rfl) (fun _ _ _ h => h) (Or.inl ⟨by rfl, ?_⟩) (by assumption) ?_
              rotate_left
              · (intro w hSw; (try dsimp only at hSw); go_simp) <;> with_reducible rfl
              try simp only [Act.put, List.setIfInBounds_toArray, List.set_cons_zero, List.set_cons_succ]
              refine wpAnyH_take (i := 16) (v := ?_) (opAt rfl) (by kernel_rfl) (by kernel_rfl) (by kernel_rfl) (fun _ _ _ h => h) (Or.inl ⟨by rfl, ?_⟩) (by assumption) ?_
              rotate_left
              · (intro w hSw; (try dsimp only at hSw); go_simp) <;> with_reducible rfl
              try simp only [Act.put, List.setIfInBounds_toArray, List.set_cons_zero, List.set_cons_succ]
              refine wpAnyH_take (i := 17) (v := ?_) (opAt rfl) (by kernel_rfl) (by kernel_rfl) (by kernel_rfl) (fun _ _ _ h => h) (Or.inl ⟨by rfl, ?_⟩) (by assumption) ?_
              rotate_left
              · (intro w hSw; (try dsimp only at hSw); go_simp) <;> with_reducible rfl
              try simp only [Act.put, List.setIfInBounds_toArray, List.set_cons_zero, List.set_cons_succ]
              refine wpAnyH_take (i := 18) (v := ?_) (opAt rfl) (by kernel_rfl) (by kernel_rfl) (by kernel_rfl) (fun _ _ _ h => h) (Or.inl ⟨by rfl, ?_⟩) (by assumption) ?_
              rotate_left
              · (intro w hSw; (try dsimp only at hSw); go_simp) <;> with_reducible rfl
              try simp only [Act.put, List.setIfInBounds_toArray, List.set_cons_zero, List.set_cons_succ]
              refine wpAnyH_take (i := 19) (v := ?_) (opAt rfl) (by kernel_rfl) (by kernel_rfl) (by kernel_rfl) (fun _ _ _ h => h) (Or.inl ⟨by rfl, ?_⟩) (by assumption) ?_
              rotate_left
              · (intro w hSw; (try dsimp only at hSw); go_simp) <;> with_reducible rfl
              try simp only [Act.put, List.setIfInBounds_toArray, List.set_cons_zero, List.set_cons_succ]
              refine wpAnyH_ready (rs := [1]) (by kernel_rfl) (by simp) ?_
              refine AllReadyH.cons (opAt rfl) (fun K hK => ?_) ?_
              · go_simp
                refine hK.out _ _ ?_ (fun hHeld1 => ?_)
                · (try dsimp only)
                  refine S_of_gb ?_
                  first | (refine grownBy_trans ?_ (grownBy_set _ _ _); (repeat (first | (with_reducible exact grownBy_refl _ _) | (with_reducible refine GB.setNew ?_ (by first | exact LeS.le | exact LeS.add _ | (simp; done) | (simp; omega)) _ _) | (with_reducible refine GB.alloc ?_ _) | (with_reducible refine GB.drew ?_) | (with_reducible refine GB.upR ?_ _) | (with_reducible refine GB.up ?_ _))); done) | ((repeat (first | (with_reducible exact grownBy_refl _ _) | (with_reducible refine GB.setNew ?_ (by first | exact LeS.le | exact LeS.add _ | (simp; done) | (simp; omega)) _ _) | (with_reducible refine GB.alloc ?_ _) | (with_reducible refine GB.drew ?_) | (with_reducible refine GB.upR ?_ _) | (with_reducible refine GB.up ?_ _))); done)
                clear hK K hHeld
                have hHeld := hHeld1; clear hHeld1
                try simp only [Act.put, List.setIfInBounds_toArray, List.set_cons_zero, List.set_cons_succ]
                refine wpAnyH_ready (rs := [20]) (by kernel_rfl) (by simp) ?_
                refine AllReadyH.cons (opAt rfl) (fun K hK => ?_) ?_
                · go_simp
                  (go_at_call 29; (with_reducible refine (kp _ ((HUi.out.sl Ent.enc_length).up (by repeat (first | (with_reducible exact Ext.refl _) | (with_reducible refine Ext.up ?_ _) | (with_reducible refine Ext.alloc ?_ _) | (with_reducible refine Ext.drew ?_) | (with_reducible refine Ext.setRow ?_ (by first | exact LeS.le | exact LeS.add _ | (simp; done) | (simp; omega)) _) | (with_reducible refine Ext.setCell ?_ (by first | exact LeS.le | exact LeS.add _ | (simp; done) | (simp; omega)) _))))).mono ?_); rintro e w' ⟨v8, rfl, ⟨z8, rfl⟩, o8⟩; obtain ⟨p8, c8, hv8, _, _⟩ := (o8.sl Ent.enc_length).openc; subst hv8)
                  try go_wp2_with fail
                  refine hK.out _ _ ?_ (fun hHeld1 => ?_)
                  · (try dsimp only)
                    refine S_of_gb ?_
                    first | (refine grownBy_trans ?_ (grownBy_set _ _ _); (repeat (first | (with_reducible exact grownBy_refl _ _) | (with_reducible refine GB.setNew ?_ (by first | exact LeS.le | exact LeS.add _ | (simp; done) | (simp; omega)) _ _) | (with_reducible refine GB.alloc ?_ _) | (with_reducible refine GB.drew ?_) | (with_reducible refine GB.upR ?_ _) | (with_reducible refine GB.up ?_ _))); done) | ((repeat (first | (with_reducible exact grownBy_refl _ _) | (with_reducible refine GB.setNew ?_ (by first | exact LeS.le | exact LeS.add _ | (simp; done) | (simp; omega)) _ _) | (with_reducible refine GB.alloc ?_ _) | (with_reducible refine GB.drew ?_) | (with_reducible refine GB.upR ?_ _) | (with_reducible refine GB.up ?_ _))); done)
                  clear hK K hHeld
                  have hHeld := hHeld1; clear hHeld1
                  try simp only [Act.put, List.setIfInBounds_toArray, List.set_cons_zero, List.set_cons_succ]
                  refine wpAnyH_take (i := 21) (v := ?_) (opAt rfl) (by kernel_rfl) (by kernel_rfl) (by kernel_rfl) (fun _ _ _ h => h) (Or.inl ⟨by rfl, ?_⟩) (by assumption) ?_
                  rotate_left
                  · (intro w hSw; (try dsimp only at hSw); go_simp) <;> with_reducible rfl
                  try simp only [Act.put, List.setIfInBounds_toArray, List.set_cons_zero, List.set_cons_succ]
                  refine wpAnyH_ready (rs := [22]) (by kernel_rfl) (by simp) ?_
                  refine AllReadyH.cons (opAt rfl) (fun K hK => ?_) ?_
                  · go_simp
                    refine hK.out _ _ ?_ (fun hHeld1 => ?_)
                    · (try dsimp only)
                      refine S_of_gb ?_
                      first | (refine grownBy_trans ?_ (grownBy_set _ _ _); (repeat (first | (with_reducible exact grownBy_refl _ _) | (with_reducible refine GB.setNew ?_ (by first | exact LeS.le | exact LeS.add _ | (simp; done) | (simp; omega)) _ _) | (with_reducible refine GB.alloc ?_ _) | (with_reducible refine GB.drew ?_) | (with_reducible refine GB.upR ?_ _) | (with_reducible refine GB.up ?_ _))); done) | ((repeat (first | (with_reducible exact grownBy_refl _ _) | (with_reducible refine GB.setNew ?_ (by first | exact LeS.le | exact LeS.add _ | (simp; done) | (simp; omega)) _ _) | (with_reducible refine GB.alloc ?_ _) | (with_reducible refine GB.drew ?_) | (with_reducible refine GB.upR ?_ _) | (with_reducible refine GB.up ?_ _))); done)
                    clear hK K hHeld
                    have hHeld := hHeld1; clear hHeld1
                    try simp only [Act.put, List.setIfInBounds_toArray, List.set_cons_zero, List.set_cons_succ]
                    refine wpAnyH_done (by kernel_rfl) ?_ _
                    have RE8 : z8.val.heap[G]? = zi.val.heap[G]? := (by repeat (first | (with_reducible rfl) | (with_reducible refine (Extd.row _ _).trans ?_) | (with_reducible refine (drew_row _ _).trans ?_) | (with_reducible refine (heap_alloc_old _ _ LtS.lt).trans ?_)))
                    have HR8 := Lib.hid (RE8.trans HROWi.out)
                    have O8 := Lib.hid (o8.lo (lo' := z7.val.heap.size) (by have := zi.grown.size; simp; omega))
                    clear o8 RE8
                    go_wp2_with fail
                    go_roundw
                    case rel => exact ⟨i + 1, _, by go_num, by omega, ExtR.of (grownBy_trans (GB.up (GB.drew zi.grown) z8) (grownBy_set _ _ _)), (heap_setCell_same _ _ 1 _ _ _ HR8.out).trans rfl, by rw [← Hnx.out]; exact O8.out.setOld _ _ hG77⟩
                    case measure => simp [intOf]; omega
                  exact AllReadyH.nil
                exact AllReadyH.nil
              exact AllReadyH.nil
            · obtain rfl : i = x.w.length := by omega
              have HUi := Lib.hid hu; have HROWi := Lib.hid hrow
              clear hu hrow
              go_wp2_with fail
              go_roundw
              case rel => exact ⟨j + 1, _, by go_num, by omega, ⟨zi, rfl⟩, HROWi.out, by rw [hsn.out, show x.core.w = x.w.take x.w.length from (List.take_length).symm]; exact HUi.out⟩
              case measure => simp [intOf]; omega
        · obtain rfl : j = tsE.length := by omega
          have E0j := Ext.upR H07.out hGz zj
          have E1j : Ext (w.alloc (.cells #[.slice p0 t.base.length c0, .slice (some ⟨b, off, none⟩) t.bs.length c1, .slice (some ⟨b2, off2, none⟩) t.pr.length c2] 27)) zj.val := Ext.upR H17.out (by simp; omega) zj
          have gP : zj.val.cell? ⟨G, 0, none⟩ = some (.int .i64 P) := cell_of_row _ _ 0 _ _ _ hrow
          have gu : zj.val.cell? ⟨G, 1, none⟩ = some (.slice pu (putW [] (allW ((tsE.map TE.core).take tsE.length))).length cu) := cell_of_row _ _ 1 _ _ _ hrow
          have hall : (tsE.map TE.core).take tsE.length = tsE.map TE.core := List.take_of_length_le (by simp)
          rw [← hall] at HT2
          have HOYj := Lib.hid (HOY.out.up E0j)
          have hAP := Lib.hid (Apart.of_lt HOY.out.1 HU.out (by omega)).symm
          have HE1 := Lib.hid E1j
          have hzj := zj.grown.size
          generalize hPW : putW [] (allW ((tsE.map TE.core).take tsE.length)) = PWj at *
          have HUl := Lib.hid (HU.out.lo (lo' := (w.alloc (.cells #[.slice p0 t.base.length c0, .slice (some ⟨b, off, none⟩) t.bs.length c1, .slice (some ⟨b2, off2, none⟩) t.pr.length c2] 27)).heap.size) (by simp; omega))
          have htl14 : ts.length ≤ 14 := by omega
          clear hu hrow hall hPW E0j E1j
          go_wp2_with (at_builtin; refine wpList_pushG fLyr rfl (.tmp 87) (.tmp 89) rfl TL.enc TL.enc_length (w.alloc (.cells #[.slice p0 t.base.length c0, .slice (some ⟨b, off, none⟩) t.bs.length c1, .slice (some ⟨b2, off2, none⟩) t.pr.length c2] 27)) (lo := (w.alloc (.cells #[.slice p0 t.base.length c0, .slice (some ⟨b, off, none⟩) t.bs.length c1, .slice (some ⟨b2, off2, none⟩) t.pr.length c2] 27)).heap.size) [(⟨P, .slice pu PWj.length cu, PWj⟩ : TL)] ts rfl HOYj.out.1 HE1.out (Nat.le_refl _) HE1.out.size rfl rfl (by go_simp) rfl (by simp [TL.enc, Value.oneCell']) (by simp; omega) (by simp; omega) ?_; intro v9 z9 o9 g9 b9)
          have OY9 := Lib.hid (OY.snoc (x := ⟨P, .slice pu PWj.length cu, PWj⟩) (HOYj.out.up ((Ext.refl _).alloc _)) g9 b9 o9 (HUl.out.up ((Ext.refl _).alloc _)) hAP.out)
          clear o9 g9 b9
          go_wp2_with fail
          go_roundw
          case rel => exact ⟨k + 1, _, by go_num, by omega, ⟨z9, rfl⟩, OY9.out, by rw [← HT2.out, List.map_append, List.map_append]; rfl⟩
          case measure => simp [intOf]; omega
    · obtain rfl : k = t.bs.length := by omega
      have Hsy := Lib.hid hsy
      obtain ⟨p3, c3, rfl⟩ := hsy.openc
      clear hsy hoy hts
      go_wp2_with ((go_at_call 9; refine (kv _ (H.out.up (by repeat (first | (with_reducible exact Ext.refl _) | (with_reducible refine Ext.up ?_ _) | (with_reducible refine Ext.alloc ?_ _) | (with_reducible refine Ext.drew ?_) | (with_reducible refine Ext.setRow ?_ (by first | exact LeS.le | exact LeS.add _ | (simp; done) | (simp; omega)) _) | (with_reducible refine Ext.setCell ?_ (by first | exact LeS.le | exact LeS.add _ | (simp; done) | (simp; omega)) _))))).mono ?_; rintro e w' ⟨rfl, z4, rfl⟩))
      go_ret
      exact ⟨_, rfl, (.of (by repeat (first | (with_reducible exact Ext.refl _) | (with_reducible refine Ext.up ?_ _) | (with_reducible refine Ext.alloc ?_ _) | (with_reducible refine Ext.drew ?_) | (with_reducible refine Ext.setRow ?_ (by first | exact LeS.le | exact LeS.add _ | (simp; done) | (simp; omega)) _) | (with_reducible refine Ext.setCell ?_ (by first | exact LeS.le | exact LeS.add _ | (simp; done) | (simp; omega)) _)))), Hsy.out.up (by repeat (first | (with_reducible exact Ext.refl _) | (with_reducible refine Ext.up ?_ _) | (with_reducible refine Ext.alloc ?_ _) | (with_reducible refine Ext.drew ?_) | (with_reducible refine Ext.setRow ?_ (by first | exact LeS.le | exact LeS.add _ | (simp; done) | (simp; omega)) _) | (with_reducible refine Ext.setCell ?_ (by first | exact LeS.le | exact LeS.add _ | (simp; done) | (simp; omega)) _)))⟩
end Go.Proofs.YteiemjebdhmnaaaGreat
