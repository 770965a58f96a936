/- Walks: actions over a store, effects that are applied, runs: the reference's side. Walks: drawn stores. -/
import Derived.Test.YtkboefmkfpnpjaaGEsLTop12
set_option linter.unusedSimpArgs false
set_option linter.unusedVariables false
namespace Go.Proofs.Ytkboefmkfpnpjaa
open Go Go.RowKit Go.Proofs

theorem fEff : AppFacts Try.prog 33 40 3 56 := by
  have h : (Try.prog.info? 40).map (fun i => (i.zero, i.size, i.bytes)) = some (some (.agg #[.bool false, .slice none 0 0, .slice none 0 0]), 3, 56) := by kernel_rfl
  obtain ⟨i0, hi, hz0, hz1, hz2⟩ := info_parts h
  exact ⟨Try.underlying33, ⟨i0, _, hi, hz0, hz1, hz2, rfl⟩, by decide⟩
theorem oneTE (ts : List TE) (h : ∀ x ∈ ts, (∃ p n c, x.vr = .slice p n c) ∧ ∃ p n c, x.vw = .slice p n c) : ∀ u ∈ ts.flatMap TE.enc, u.oneCell' = true := by
  intro u hu
  obtain ⟨x, hx, h1⟩ := List.mem_flatMap.1 hu
  obtain ⟨⟨p, n, c, e1⟩, ⟨p', n', c', e2⟩⟩ := h x hx
  simp only [TE.enc, e1, e2, List.mem_cons, List.not_mem_nil, or_false] at h1
  rcases h1 with rfl | rfl | rfl <;> rfl
theorem putAll_le {s u : List Ent} (hs : entsOk 1 s = true) (hu : entsOk 0 u = true) (k : Nat) : (putAll s (u.take k)).length ≤ 32 := by
  have hv : valsIn (valsOf s) := valsOf_in (entsOk_least (by decide) hs)
  rw [← storeOf_valsOf hs, putAll_store hv (fun e he => by have := entsOk_mem hu (List.mem_of_mem_take he); omega)]
  exact storeOf_le _
set_option maxRecDepth 100000 in
set_option maxHeartbeats 1000000 in
theorem sPutValue_yes (l : List Ent) (v : Value) (key val : Int) (w : World) (h : SL (RF Ent.enc) 2 w v l) (hok : entsOk 1 l = true) (k0 : 0 ≤ key) (k1 : key ≤ 31) (v0 : 0 ≤ val) (v1 : val ≤ 1000000) :
    Calls Try.prog 136 #[v, .int .i64 key, .int .i64 val] w fun e w' => ∃ v', e = .returned (.tuple #[v', .bool true]) ∧ Up w w' ∧ Own Ent.enc 31 2 w.heap.size w' v' (putF (decide (val = 0)) key val l) := by
  have H := Lib.hid h
  obtain ⟨p, c, rfl, _, _⟩ := h.openc
  have hlen := entsOk_len hok
  have kv := fun w (h : SL (RF Ent.enc) 2 w (.slice p l.length c) l) => sStoreValid_any l _ w h
  simp only [hok] at kv
  have kk := fun w => l1In_any key 0 31 w
  simp only [inR_iff.2 ⟨k0, k1⟩] at kk
  have kw := fun w => l1In_any val 0 1000000 w
  simp only [inR_iff.2 ⟨v0, v1⟩] at kw
  clear h
  go_enter Try.func136, Try.ntmps136
  go_wp2_with (first | (go_at_call 26; refine (kv _ (H.out.up (by repeat (first | (with_reducible exact Ext.refl _) | (with_reducible refine Ext.up ?_ _) | (with_reducible refine Ext.alloc ?_ _) | (with_reducible refine Ext.drew ?_) | (with_reducible refine Ext.setRow ?_ (by first | exact LeS.le | exact LeS.add _ | (simp; done) | (simp; omega)) _) | (with_reducible refine Ext.setCell ?_ (by first | exact LeS.le | exact LeS.add _ | (simp; done) | (simp; omega)) _))))).mono ?_; rintro e w' ⟨rfl, z1, rfl⟩) | (go_at_call 66; (with_reducible refine (kk _).mono ?_); rintro e w' ⟨rfl, rfl⟩) | (go_at_call 66; (with_reducible refine (kw _).mono ?_); rintro e w' ⟨rfl, rfl⟩))
  refine (l2Put_any l _ key val _ (H.out.up (by repeat (first | (with_reducible exact Ext.refl _) | (with_reducible refine Ext.up ?_ _) | (with_reducible refine Ext.alloc ?_ _) | (with_reducible refine Ext.drew ?_) | (with_reducible refine Ext.setRow ?_ (by first | exact LeS.le | exact LeS.add _ | (simp; done) | (simp; omega)) _) | (with_reducible refine Ext.setCell ?_ (by first | exact LeS.le | exact LeS.add _ | (simp; done) | (simp; omega)) _)))) (by omega)).mono ?_; rintro e w' ⟨v', rfl, ⟨z2, rfl⟩, hown⟩
  go_wp2_with fail
  refine bodyPost_ret (v := .tuple #[v', .bool true]) (by simp [results, Try.results136, go_sem]) rfl ?_
  exact ⟨_, rfl, (.of (by repeat (first | (with_reducible exact Ext.refl _) | (with_reducible refine Ext.up ?_ _) | (with_reducible refine Ext.alloc ?_ _) | (with_reducible refine Ext.drew ?_) | (with_reducible refine Ext.setRow ?_ (by first | exact LeS.le | exact LeS.add _ | (simp; done) | (simp; omega)) _) | (with_reducible refine Ext.setCell ?_ (by first | exact LeS.le | exact LeS.add _ | (simp; done) | (simp; omega)) _)))), hown.lo LeS.le⟩
set_option maxRecDepth 100000 in
set_option maxHeartbeats 2000000 in
theorem sApplyEffect_yes (s u : List Ent) (d : Bool) (v vr vw : Value) (w : World) (h : SL (RF Ent.enc) 2 w v s) (hu : SL (RF Ent.enc) 2 w vw u) (hr : ∃ p n c, vr = .slice p n c) (hok : entsOk 1 s = true) (huo : entsOk 0 u = true) :
    Calls Try.prog 77 #[v, .agg #[.bool d, vr, vw]] w fun e w' => ∃ v', e = .returned v' ∧ Up w w' ∧ Own Ent.enc 31 2 w.heap.size w' v' (putAll s u) := by
  have H := Lib.hid h; have HU := Lib.hid hu
  obtain ⟨p2, n2, c2, rfl⟩ := hr
  obtain ⟨p, c, rfl, _, _⟩ := h.openc
  obtain ⟨p3, c3, rfl, hlu, hcu⟩ := hu.open
  have hls := entsOk_len hok
  have kv := fun w (h : SL (RF Ent.enc) 2 w (.slice p s.length c) s) => sStoreValid_any s _ w h
  simp only [hok] at kv
  have kw := fun w (h : SL (RF Ent.enc) 2 w (.slice p3 u.length c3) u) => l4Writes_any u _ w h
  simp only [huo] at kw
  have hlu2 := entsOk_len huo
  clear h hu
  have Hok := Lib.hid hok; have Huo := Lib.hid huo
  clear hok huo
  go_enter Try.func77, Try.ntmps77
  go_wp2_with (first | (go_at_call 26; refine (kv _ (H.out.up (by repeat (first | (with_reducible exact Ext.refl _) | (with_reducible refine Ext.up ?_ _) | (with_reducible refine Ext.alloc ?_ _) | (with_reducible refine Ext.drew ?_) | (with_reducible refine Ext.setRow ?_ (by first | exact LeS.le | exact LeS.add _ | (simp; done) | (simp; omega)) _) | (with_reducible refine Ext.setCell ?_ (by first | exact LeS.le | exact LeS.add _ | (simp; done) | (simp; omega)) _))))).mono ?_; rintro e w' ⟨rfl, z1, rfl⟩) | (go_at_call 96; refine (kw _ (HU.out.up (by repeat (first | (with_reducible exact Ext.refl _) | (with_reducible refine Ext.up ?_ _) | (with_reducible refine Ext.alloc ?_ _) | (with_reducible refine Ext.drew ?_) | (with_reducible refine Ext.setRow ?_ (by first | exact LeS.le | exact LeS.add _ | (simp; done) | (simp; omega)) _) | (with_reducible refine Ext.setCell ?_ (by first | exact LeS.le | exact LeS.add _ | (simp; done) | (simp; omega)) _))))).mono ?_; rintro e w' ⟨rfl, z2, rfl⟩) | (at_builtin; refine wpList_catA fEnt rfl (.tmp 17) (.tmp 18) rfl Ent.enc Ent.enc_length (w.alloc (.cells #[.bool d, .slice p2 n2 c2, .slice p3 u.length c3] 40)) (lo := (w.alloc (.cells #[.bool d, .slice p2 n2 c2, .slice p3 u.length c3] 40)).heap.size) s [] rfl (Own.lit rfl LeS.le rfl rfl Ent.enc_length (by simp)) (by repeat (first | (with_reducible exact Ext.refl _) | (with_reducible refine Ext.up ?_ _) | (with_reducible refine Ext.alloc ?_ _) | (with_reducible refine Ext.drew ?_) | (with_reducible refine Ext.setRow ?_ (by first | exact LeS.le | exact LeS.add _ | (simp; done) | (simp; omega)) _) | (with_reducible refine Ext.setCell ?_ (by first | exact LeS.le | exact LeS.add _ | (simp; done) | (simp; omega)) _))) (Nat.le_refl _) LeS.le rfl (H.out.up (by repeat (first | (with_reducible exact Ext.refl _) | (with_reducible refine Ext.up ?_ _) | (with_reducible refine Ext.alloc ?_ _) | (with_reducible refine Ext.drew ?_) | (with_reducible refine Ext.setRow ?_ (by first | exact LeS.le | exact LeS.add _ | (simp; done) | (simp; omega)) _) | (with_reducible refine Ext.setCell ?_ (by first | exact LeS.le | exact LeS.add _ | (simp; done) | (simp; omega)) _)))) (oneEs' _) (by simp; omega) (by simp; omega) ?_; intro v1 z3 o1 g1 b1; clear g1 b1))
  have O1 := Lib.hid o1; clear o1
  go_loopw [5, 6] (fun s5 s6 wr => ∃ k : Nat, s6 = .int .i64 k ∧ k ≤ u.length ∧ Up (w.alloc (.cells #[.bool d, .slice p2 n2 c2, .slice p3 u.length c3] 40)) wr ∧ Own Ent.enc 31 2 (w.alloc (.cells #[.bool d, .slice p2 n2 c2, .slice p3 u.length c3] 40)).heap.size wr s5 (putAll s (u.take k))) (fun _ s6 _ => u.length - (intOf s6).toNat)
  case atStart => exact ⟨0, rfl, Nat.zero_le _, ⟨z3, rfl⟩, O1.out⟩
  case round =>
    obtain ⟨k, rfl, hk, ⟨z, rfl⟩, hown⟩ := hrel
    have Hown := Lib.hid hown; clear hown
    by_cases hlt : k < u.length
    · obtain ⟨x, hxk⟩ := getElem?_some_of_lt hlt
      obtain ⟨b, off, rfl, hb, hcc⟩ := hcu k x hxk
      have e0 : w.cell? ⟨b, off + k * 2, none⟩ = some (.int .i64 x.k) := hcc 0 _ rfl
      have e1 : w.cell? ⟨b, off + k * 2 + 1, none⟩ = some (.int .i64 x.v) := hcc 1 _ rfl
      have kk : (0 : Int) ≤ (k : Int) := by omega
      have kl : (k : Int) < u.length := by omega
      have Hx := Lib.hid (putAll_snoc s hxk)
      have hpl := putAll_le Hok.out Huo.out k
      clear hcu hcc hxk
      go_wp2_with fail
      (go_region_held3 (fun w' => (∀ n i, ∀ [LtS n (w.alloc (.cells #[.bool d, .slice p2 n2 c2, .slice (some ⟨b, off, none⟩) u.length c3] 40))], w'.cell? ⟨n, i, none⟩ = World.cell? (w.alloc (.cells #[.bool d, .slice p2 n2 c2, .slice (some ⟨b, off, none⟩) u.length c3] 40)) ⟨n, i, none⟩) ∧ Ext (w.alloc (.cells #[.bool d, .slice p2 n2 c2, .slice (some ⟨b, off, none⟩) u.length c3] 40)) w') ((refine S_of_ext ?_; (repeat (first | exact Ext.refl _ | refine Ext.up ?_ _ | refine Ext.alloc ?_ _ | refine Ext.drew ?_ | refine Ext.setRow ?_ (by first | (dsimp only; omega) | exact LeS.le | exact LeS.add _ | (simp; done) | (simp; omega)) _ | refine Ext.setCell ?_ (by first | (dsimp only; omega) | exact LeS.le | exact LeS.add _ | (simp; done) | (simp; omega)) _)); done)) ((go_at_call 140; refine (l2Put_any (putAll s (u.take k)) _ x.k x.v _ ((Hown.out.sl Ent.enc_length).up (by repeat (first | (with_reducible exact Ext.refl _) | (with_reducible refine Ext.up ?_ _) | (with_reducible refine Ext.alloc ?_ _) | (with_reducible refine Ext.drew ?_) | (with_reducible refine Ext.setRow ?_ (by first | exact LeS.le | exact LeS.add _ | (simp; done) | (simp; omega)) _) | (with_reducible refine Ext.setCell ?_ (by first | exact LeS.le | exact LeS.add _ | (simp; done) | (simp; omega)) _)))) (by omega)).mono ?_; rintro e w' ⟨v7, rfl, ⟨z7, rfl⟩, o7⟩)))
      have O7 := Lib.hid o7; clear o7
      go_wp2_with fail
      go_roundw
      case rel => exact ⟨k + 1, by go_num, by omega, (.of (by repeat (first | (with_reducible exact Ext.refl _) | (with_reducible refine Ext.up ?_ _) | (with_reducible refine Ext.alloc ?_ _) | (with_reducible refine Ext.drew ?_) | (with_reducible refine Ext.setRow ?_ (by first | exact LeS.le | exact LeS.add _ | (simp; done) | (simp; omega)) _) | (with_reducible refine Ext.setCell ?_ (by first | exact LeS.le | exact LeS.add _ | (simp; done) | (simp; omega)) _)))), by rw [Hx.out]; exact O7.out.lo LeS.le⟩
      case measure => simp [intOf]; omega
    · obtain rfl : k = u.length := by omega
      rw [List.take_length] at Hown
      clear hcu
      go_wp2_with fail
      go_ret
      exact ⟨_, rfl, (.of (by repeat (first | (with_reducible exact Ext.refl _) | (with_reducible refine Ext.up ?_ _) | (with_reducible refine Ext.alloc ?_ _) | (with_reducible refine Ext.drew ?_) | (with_reducible refine Ext.setRow ?_ (by first | exact LeS.le | exact LeS.add _ | (simp; done) | (simp; omega)) _) | (with_reducible refine Ext.setCell ?_ (by first | exact LeS.le | exact LeS.add _ | (simp; done) | (simp; omega)) _)))), Hown.out.lo LeS.le⟩
end Go.Proofs.Ytkboefmkfpnpjaa
namespace Go.Proofs.Ytkboefmkfpnpjaa
open Go Go.RowKit Go.Proofs

theorem rd_cat {α : Type} {enc : α → List Value} {e sz lo rb : Nat} {lim : Int} {w0 w W w7 : World} {v : Value} {l : List α} (hR : Rd w0 W rb lim) (hG : w.grownBy W (some rb)) (hown : Own enc e sz lo W v l) (hlo : rb < lo) (hw : w.heap.size ≤ lo) (hE : Ext w0 w7) (g7 : W.grownBy w7 v.ownBlock) :
    Rd w0 w7 rb lim ∧ (∃ z : ExtR rb w, w7 = z.val) := by
  refine ⟨hR.grown hE (g7.block rb hR.lt (fun e => ?_)), ExtR.of ?_⟩
  · rcases hown.ne_rb hlo with h | h
    · rw [h] at e; cases e
    · exact h e.symm
  · refine ⟨g7.os.trans hG.os, g7.tape.trans hG.tape, g7.output.trans hG.output, Nat.le_trans hG.size g7.size, fun n hn hne => ?_⟩
    refine (g7.block n (Nat.lt_of_lt_of_le hn hG.size) (fun e => ?_)).trans (hG.block n hn hne)
    have := (World.ownsRow.lt hown n e.symm).1
    omega
set_option maxRecDepth 100000 in
set_option maxHeartbeats 4000000 in
theorem drawStore_any (w0 w : World) (rb : Nat) (lim n : Int) (h : Rd w0 w rb lim) (hl : lim ≤ 100000) (hn0 : 0 ≤ n) (hn1 : n ≤ 1000000) :
    Calls Try.prog 73 #[.pointer (some ⟨rb, 0, none⟩), .int .i64 n] w fun e w' => ∃ v' l, e = .returned v' ∧ l.length ≤ 33 ∧ (n = 0 → entsOk 1 l = true) ∧ (∃ z : ExtR rb w, w' = z.val) ∧ Rd w0 w' rb (lim + 100) ∧ Own Ent.enc 31 2 w.heap.size w' v' l := by
  have H := Lib.hid h
  have hL : LtS rb w := ⟨h.lt⟩
  have hLe : w0.heap.size ≤ w.heap.size := h.ext.size
  have hlt := h.lt
  clear h
  go_enter Try.func73, Try.ntmps73
  go_wp2_with fail
  refine (pick_any w0 _ rb lim 7 (H.out.up (by repeat (first | (with_reducible exact Ext.refl _) | (with_reducible refine Ext.up ?_ _) | (with_reducible refine Ext.alloc ?_ _) | (with_reducible refine Ext.drew ?_) | (with_reducible refine Ext.setRow ?_ (by first | exact LeS.le | exact LeS.add _ | (simp; done) | (simp; omega)) _) | (with_reducible refine Ext.setCell ?_ (by first | exact LeS.le | exact LeS.add _ | (simp; done) | (simp; omega)) _)))) (by omega) (by omega) (by omega)).mono ?_; rintro e w' ⟨j0, rfl, j00, j01, j02, ⟨z0, rfl⟩, hr⟩
  have H0 := Lib.hid hr
  have hj := j01 (by omega)
  clear hr j01 j02
  go_wp2_with fail
  go_loopw [5, 6] (fun s5 s6 wr => ∃ (j : Int) (out : List Ent), s6 = .int .i64 j ∧ 0 ≤ j ∧ j ≤ 6 ∧ entsOk 1 out = true ∧ (∃ z : ExtR rb w, wr = z.val) ∧ Rd w0 wr rb (lim + 60 - 8 * j) ∧ Own Ent.enc 31 2 w.heap.size wr s5 out) (fun _ s6 _ => (intOf s6).toNat)
  case atStart =>
    refine ⟨j0, [], rfl, j00, by omega, rfl, ExtR.of (by repeat (first | (with_reducible exact grownBy_refl _ _) | (with_reducible refine GB.setNew ?_ (by first | exact LeS.le | exact LeS.add _ | (simp; done) | (simp; omega)) _ _) | (with_reducible refine GB.alloc ?_ _) | (with_reducible refine GB.drew ?_) | (with_reducible refine GB.upR ?_ _) | (with_reducible refine GB.up ?_ _))), H0.out.mono (by omega), ?_⟩
    have o0 : Own Ent.enc 31 2 w.heap.size (w.alloc (.cells #[] 31)) (.slice (some ⟨w.heap.size, 0, none⟩) 0 0) [] := Own.lit rfl (Nat.le_refl _) rfl rfl Ent.enc_length (by simp)
    exact Own.upR o0 hlt z0
  case round =>
    obtain ⟨j, out, rfl, jj0, jj6, hok, ⟨z, rfl⟩, hr, hown⟩ := hrel
    have hol := entsOk_len hok
    have H1 := Lib.hid hr; have HO := Lib.hid hown; have Hok := Lib.hid hok
    have hLz : LtS rb z.val := ⟨hr.lt⟩
    clear hr hown hok
    by_cases hjz : 0 < j
    · go_wp2_with fail
      refine (key_any w0 _ rb _ H1.out (by omega)).mono ?_; rintro e w' ⟨key, rfl, y0, y1, ⟨z1, rfl⟩, hr⟩
      have H2 := Lib.hid hr; clear hr
      go_wp2_with fail
      refine (value_any w0 _ rb _ H2.out (by omega)).mono ?_; rintro e w' ⟨val, rfl, x0, x1, ⟨z2, rfl⟩, hr⟩
      have H3 := Lib.hid hr; clear hr
      have HO2 := Lib.hid ((HO.out.upR hlt z1).upR hlt z2)
      go_wp2_with fail
      refine (sPutValue_yes out _ key val _ (HO2.out.sl Ent.enc_length) Hok.out y0 y1 x0 x1).mono ?_; rintro e w' ⟨v7, rfl, ⟨z3, rfl⟩, o7⟩
      have O7 := Lib.hid o7; clear o7
      have hsz : w.heap.size ≤ z2.val.heap.size := Nat.le_trans (Nat.le_trans z.grown.size z1.grown.size) z2.grown.size
      go_wp2_with fail
      go_roundw
      case rel =>
        refine ⟨j - 1, _, by go_num, by omega, by omega, ?_, ExtR.of (GB.up (GB.upR (GB.upR z.grown z1) z2) z3), (H3.out.up z3.ext).mono (by omega), O7.out.lo hsz⟩
        rw [putF_asc (asc_of Hok.out)]
        exact putS_ok Hok.out y0 y1 (fun hp => by simp at hp; omega)
      case measure => simp [intOf]; omega
    · obtain rfl : j = 0 := by omega
      go_wp2_with fail
      refine (odd_any w0 _ rb _ n H1.out (by omega) (by omega) (by omega)).mono ?_; rintro e w' ⟨bo, rfl, hbo, ⟨z1, rfl⟩, hr⟩
      have H2 := Lib.hid hr; clear hr
      have HO1 := Lib.hid (HO.out.upR hlt z1)
      rcases bo with _ | _
      · go_wp2_with fail
        go_ret
        exact ⟨_, out, rfl, by omega, fun _ => Hok.out, ExtR.of (GB.upR z.grown z1), H2.out.mono (by omega), HO1.out⟩
      · have hn : n ≠ 0 := fun e => by cases hbo e
        clear hbo
        go_wp2_with fail
        refine (pick_any w0 _ rb _ 4 H2.out (by omega) (by omega) (by omega)).mono ?_; rintro e w' ⟨q, rfl, q0, q1, q2, ⟨z2, rfl⟩, hr⟩
        have H3 := Lib.hid hr; clear hr
        have HO2 := Lib.hid (HO1.out.upR hlt z2)
        have hq1 := q1 (by omega)
        clear q1 q2
        have HG := Lib.hid (GB.upR (GB.upR z.grown z1) z2)
        have hLz2 : LtS rb z2.val := ⟨H3.out.lt⟩
        have hLeq : LeS w z2.val := ⟨HG.out.size⟩
        have hq : q = 0 ∨ q = 1 ∨ q = 2 ∨ q = 3 := by omega
        rcases hq with rfl | rfl | rfl | rfl
        · go_wp2_with (at_builtin; refine wpList_pushG fEnt rfl (.tmp 34) (.tmp 36) rfl Ent.enc Ent.enc_length w0 (lo := w.heap.size) [⟨32, 1⟩] out rfl HO2.out H3.out.ext hLe LeS.le rfl rfl (by go_simp) rfl (oneEs' _) (by simp; omega) (by simp; omega) ?_; intro v7 z7 o7 g7 b7; clear b7)
          obtain ⟨R7, E7⟩ := rd_push (w := w) H3.out HG.out HO2.out hlt (Nat.le_refl _) z7.ext g7; clear g7
          go_ret
          exact ⟨_, _, rfl, by rw [List.length_append]; simp; omega, fun e => absurd e hn, E7, R7.mono (by omega), o7⟩
        · have o1 : Own Ent.enc 31 2 w.heap.size (z2.val.alloc (.cells #[.int .i64 31, .int .i64 1] 31)) (.slice (some ⟨z2.val.heap.size, 0, none⟩) 1 1) [⟨31, 1⟩] := Own.lit rfl HG.out.size rfl rfl Ent.enc_length (by simp)
          have O1 := Lib.hid o1; clear o1
          go_wp2_with (at_builtin; refine wpList_pushG fEnt rfl (.tmp 41) (.tmp 43) rfl Ent.enc Ent.enc_length w0 (lo := w.heap.size) [⟨0, 1⟩] [⟨31, 1⟩] rfl O1.out (H3.out.alloc _).ext hLe (by have := HG.out.size; simp; omega) rfl rfl (by go_simp) rfl (oneEs' _) (by simp) (by simp) ?_; intro v7 z7 o7 g7 b7; clear b7)
          obtain ⟨R7, E7⟩ := rd_push (w := w) (H3.out.alloc _) (GB.alloc HG.out _) O1.out hlt (Nat.le_refl _) z7.ext g7; clear g7
          go_ret
          exact ⟨_, _, rfl, by simp, fun e => absurd e hn, E7, R7.mono (by omega), o7⟩
        · have o1 : Own Ent.enc 31 2 w.heap.size (z2.val.alloc (.cells #[] 31)) (.slice (some ⟨z2.val.heap.size, 0, none⟩) 0 0) [] := Own.lit rfl HG.out.size rfl rfl Ent.enc_length (by simp)
          have O1 := Lib.hid o1; clear o1
          go_wp2_with fail
          refine (pick_any w0 _ rb _ 3 ((H3.out.alloc _).alloc _) (by omega) (by omega) (by omega)).mono ?_; rintro e w' ⟨q, rfl, q0, q1, q2, ⟨z4, rfl⟩, hr⟩
          have H4 := Lib.hid hr; clear hr
          have hq1 := q1 (by omega)
          clear q1 q2
          have hLz4 : LtS z2.val.heap.size ((z2.val.alloc (.cells #[] 31)).alloc (.cells #[.int .i64 0, .int .i64 (-1), .int .i64 1000001] 3)) := ⟨by simp; omega⟩
          have HO4 := Lib.hid ((O1.out.up (w' := (z2.val.alloc (.cells #[] 31)).alloc (.cells #[.int .i64 0, .int .i64 (-1), .int .i64 1000001] 3)) (by repeat (first | (with_reducible exact Ext.refl _) | (with_reducible refine Ext.up ?_ _) | (with_reducible refine Ext.alloc ?_ _) | (with_reducible refine Ext.drew ?_) | (with_reducible refine Ext.setRow ?_ (by first | exact LeS.le | exact LeS.add _ | (simp; done) | (simp; omega)) _) | (with_reducible refine Ext.setCell ?_ (by first | exact LeS.le | exact LeS.add _ | (simp; done) | (simp; omega)) _)))).upR hlt z4)
          have HG4 := Lib.hid (GB.upR (GB.alloc (GB.alloc HG.out (.cells #[] 31)) (.cells #[.int .i64 0, .int .i64 (-1), .int .i64 1000001] 3)) z4)
          have hqq : q = 0 ∨ q = 1 ∨ q = 2 := by omega
          rcases hqq with rfl | rfl | rfl
          · go_wp2_with (at_builtin; refine wpList_pushG fEnt rfl (.tmp 47) (.tmp 54) rfl Ent.enc Ent.enc_length w0 (lo := w.heap.size) [⟨1, 0⟩] [] rfl HO4.out H4.out.ext hLe (by have := HG4.out.size; omega) rfl rfl (by go_simp) rfl (oneEs' _) (by simp) (by simp) ?_; intro v7 z7 o7 g7 b7; clear b7)
            obtain ⟨R7, E7⟩ := rd_push (w := w) H4.out HG4.out HO4.out hlt (Nat.le_refl _) z7.ext g7; clear g7
            go_ret
            exact ⟨_, _, rfl, by simp, fun e => absurd e hn, E7, R7.mono (by omega), o7⟩
          · go_wp2_with (at_builtin; refine wpList_pushG fEnt rfl (.tmp 47) (.tmp 54) rfl Ent.enc Ent.enc_length w0 (lo := w.heap.size) [⟨1, -1⟩] [] rfl HO4.out H4.out.ext hLe (by have := HG4.out.size; omega) rfl rfl (by go_simp) rfl (oneEs' _) (by simp) (by simp) ?_; intro v7 z7 o7 g7 b7; clear b7)
            obtain ⟨R7, E7⟩ := rd_push (w := w) H4.out HG4.out HO4.out hlt (Nat.le_refl _) z7.ext g7; clear g7
            go_ret
            exact ⟨_, _, rfl, by simp, fun e => absurd e hn, E7, R7.mono (by omega), o7⟩
          · go_wp2_with (at_builtin; refine wpList_pushG fEnt rfl (.tmp 47) (.tmp 54) rfl Ent.enc Ent.enc_length w0 (lo := w.heap.size) [⟨1, 1000001⟩] [] rfl HO4.out H4.out.ext hLe (by have := HG4.out.size; omega) rfl rfl (by go_simp) rfl (oneEs' _) (by simp) (by simp) ?_; intro v7 z7 o7 g7 b7; clear b7)
            obtain ⟨R7, E7⟩ := rd_push (w := w) H4.out HG4.out HO4.out hlt (Nat.le_refl _) z7.ext g7; clear g7
            go_ret
            exact ⟨_, _, rfl, by simp, fun e => absurd e hn, E7, R7.mono (by omega), o7⟩
        · have o1 : Own Ent.enc 31 2 w.heap.size (z2.val.alloc (.cells #[.int .i64 (-1), .int .i64 5] 31)) (.slice (some ⟨z2.val.heap.size, 0, none⟩) 1 1) [⟨-1, 5⟩] := Own.lit rfl HG.out.size rfl rfl Ent.enc_length (by simp)
          have O1 := Lib.hid o1; clear o1
          go_wp2_with (at_builtin; refine wpList_catA fEnt rfl (.tmp 29) (.tmp 30) rfl Ent.enc Ent.enc_length w0 (lo := w.heap.size) out [⟨-1, 5⟩] rfl O1.out (H3.out.alloc _).ext hLe (by have := HG.out.size; simp; omega) rfl ((HO2.out.sl Ent.enc_length).up (by repeat (first | (with_reducible exact Ext.refl _) | (with_reducible refine Ext.up ?_ _) | (with_reducible refine Ext.alloc ?_ _) | (with_reducible refine Ext.drew ?_) | (with_reducible refine Ext.setRow ?_ (by first | exact LeS.le | exact LeS.add _ | (simp; done) | (simp; omega)) _) | (with_reducible refine Ext.setCell ?_ (by first | exact LeS.le | exact LeS.add _ | (simp; done) | (simp; omega)) _)))) (oneEs' _) (by simp; omega) (by simp; omega) ?_; intro v7 z7 o7 g7 b7; clear b7)
          obtain ⟨R7, E7⟩ := rd_cat (w := w) (H3.out.alloc _) (GB.alloc HG.out _) O1.out hlt (Nat.le_refl _) z7.ext g7; clear g7
          go_ret
          exact ⟨_, _, rfl, by rw [List.length_append]; simp; omega, fun e => absurd e hn, E7, R7.mono (by omega), o7⟩
end Go.Proofs.Ytkboefmkfpnpjaa
