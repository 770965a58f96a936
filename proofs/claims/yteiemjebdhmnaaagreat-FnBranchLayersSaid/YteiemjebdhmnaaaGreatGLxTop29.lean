/- Walks: layers, the program's side. Plain ground: trees of the call's own in which one number is turned, or that have an entry more. -/
import Derived.Test.YteiemjebdhmnaaaGreatGLxTop27
import Derived.Test.YteiemjebdhmnaaaGreatGLxTop23
import Derived.Test.YteiemjebdhmnaaaGreatGLxTop22
set_option linter.unusedSimpArgs false
set_option linter.unusedVariables false
namespace Go.Proofs.YteiemjebdhmnaaaGreat
open Go Go.RowKit Go.Proofs

set_option maxRecDepth 100000 in
set_option maxHeartbeats 1000000 in
theorem iLayersValid_yes (L : List Lyr) (vl : Value) (w : World) (hl : SY w vl L) (hL : lyrsOk L = true) :
    Calls Tryz.prog 14 #[vl] w fun e w' => e = .returned (.bool true) ∧ Up w w' := by
  obtain ⟨a, cap, rfl, hlen, _, hc⟩ := hl.open
  obtain ⟨h1, h2⟩ := lyrsOk_iff.1 hL
  have HL := Lib.hid h1
  clear hl hL h1
  go_enter Tryz.func14, Tryz.ntmps14
  go_wp2_with fail
  go_loopw [3, 4, 7] (fun _ _ s7 wr => ∃ (k : Nat), s7 = .int .i64 k ∧ k ≤ L.length ∧ Up w wr) (fun _ _ s7 _ => L.length - (intOf s7).toNat)
  case atStart => exact ⟨0, rfl, Nat.zero_le _, (.of (by repeat (first | (with_reducible exact Ext.refl _) | (with_reducible refine Ext.up ?_ _) | (with_reducible refine Ext.alloc ?_ _) | (with_reducible refine Ext.drew ?_) | (with_reducible refine Ext.setRow ?_ (by first | exact LeS.le | exact LeS.add _ | (simp; done) | (simp; omega)) _) | (with_reducible refine Ext.setCell ?_ (by first | exact LeS.le | exact LeS.add _ | (simp; done) | (simp; omega)) _))))⟩
  case round =>
    obtain ⟨k, rfl, hk, ⟨z, rfl⟩⟩ := hrel
    by_cases hlt : k < L.length
    · obtain ⟨x, hxk⟩ := getElem?_some_of_lt hlt
      obtain ⟨b, off, p, c, rfl, hb, e0, e1, sx⟩ := hc k x hxk
      obtain ⟨hb0, hb1, hbw⟩ := lyr_below HL.out hxk
      have SX := Lib.hid sx
      have kw := fun w h => entriesValid_any x.w (.slice p x.w.length c) 0 w h
      rw [hbw] at kw
      have hw1 : IntKind.i64.wrap ((k : Int) - 1) = (k : Int) - 1 := IntWalk.i64_in _ (by omega)
      have ki := fun w => in_any x.b (-1) ((k : Int) - 1) w
      rw [show inR x.b (-1) ((k : Int) - 1) = true from inR_iff.2 ⟨hb0, by omega⟩] at ki
      have k0 : (0 : Int) ≤ (k : Int) := by omega
      clear hc hxk sx hbw hb0 hb1
      go_wp2_with (first | (go_at_call 43; refine (ki _).mono ?_; rintro e w' ⟨rfl, rfl⟩) | (go_at_call 44; refine (kw _ (SX.out.up (by repeat (first | (with_reducible exact Ext.refl _) | (with_reducible refine Ext.up ?_ _) | (with_reducible refine Ext.alloc ?_ _) | (with_reducible refine Ext.drew ?_) | (with_reducible refine Ext.setRow ?_ (by first | exact LeS.le | exact LeS.add _ | (simp; done) | (simp; omega)) _) | (with_reducible refine Ext.setCell ?_ (by first | exact LeS.le | exact LeS.add _ | (simp; done) | (simp; omega)) _))))).mono ?_; rintro e w' ⟨rfl, z1, rfl⟩))
      go_roundw
      case rel => exact ⟨k + 1, by go_num, by omega, (.of (by repeat (first | (with_reducible exact Ext.refl _) | (with_reducible refine Ext.up ?_ _) | (with_reducible refine Ext.alloc ?_ _) | (with_reducible refine Ext.drew ?_) | (with_reducible refine Ext.setRow ?_ (by first | exact LeS.le | exact LeS.add _ | (simp; done) | (simp; omega)) _) | (with_reducible refine Ext.setCell ?_ (by first | exact LeS.le | exact LeS.add _ | (simp; done) | (simp; omega)) _))))⟩
      case measure => simp [intOf]; omega
    · go_wp2_with fail
      go_ret
      refine ⟨?_, z, rfl⟩
      first | rfl | simp; omega
set_option maxRecDepth 100000 in
set_option maxHeartbeats 1000000 in
theorem layersFit_yes (s : List Ent) (L : List Lyr) (v vl : Value) (n : Int) (w : World) (h : SL (RF Ent.enc) 2 w v s) (hl : SY w vl L) (hs : entsOk 1 s = true) (hL : lyrsOk L = true) (hn0 : -1 ≤ n) (hn1 : n < L.length) :
    Calls Tryz.prog 38 #[v, vl, .int .i64 n] w fun e w' => e = .returned (.bool true) ∧ Up w w' := by
  obtain ⟨p0, c0, rfl, _, _⟩ := h.openc
  obtain ⟨a, cap, rfl⟩ := hl.openc
  obtain ⟨h1, h2⟩ := lyrsOk_iff.1 hL
  have H := Lib.hid h; have HY := Lib.hid hl
  have ks := fun w h => iStoreValid_any s (.slice p0 s.length c0) w h
  rw [hs] at ks
  have kl := fun w h => iLayersValid_yes L (.slice a L.length cap) w h hL
  have ki := fun w => in_any n (-1) ((L.length : Int) - 1) w
  rw [show inR n (-1) ((L.length : Int) - 1) = true from inR_iff.2 ⟨hn0, by omega⟩] at ki
  have hw1 : IntKind.i64.wrap ((L.length : Int) - 1) = (L.length : Int) - 1 := IntWalk.i64_in _ (by omega)
  clear h hl hs hL h1
  go_enter Tryz.func38, Tryz.ntmps38
  go_wp2_with (first | (go_at_call 68; refine (ks _ (H.out.up (by repeat (first | (with_reducible exact Ext.refl _) | (with_reducible refine Ext.up ?_ _) | (with_reducible refine Ext.alloc ?_ _) | (with_reducible refine Ext.drew ?_) | (with_reducible refine Ext.setRow ?_ (by first | exact LeS.le | exact LeS.add _ | (simp; done) | (simp; omega)) _) | (with_reducible refine Ext.setCell ?_ (by first | exact LeS.le | exact LeS.add _ | (simp; done) | (simp; omega)) _))))).mono ?_; rintro e w' ⟨rfl, z1, rfl⟩) | (go_at_call 14; refine (kl _ (HY.out.up (by repeat (first | (with_reducible exact Ext.refl _) | (with_reducible refine Ext.up ?_ _) | (with_reducible refine Ext.alloc ?_ _) | (with_reducible refine Ext.drew ?_) | (with_reducible refine Ext.setRow ?_ (by first | exact LeS.le | exact LeS.add _ | (simp; done) | (simp; omega)) _) | (with_reducible refine Ext.setCell ?_ (by first | exact LeS.le | exact LeS.add _ | (simp; done) | (simp; omega)) _))))).mono ?_; rintro e w' ⟨rfl, z2, rfl⟩) | (go_at_call 43; refine (ki _).mono ?_; rintro e w' ⟨rfl, rfl⟩))
  go_ret
  exact ⟨rfl, (.of (by repeat (first | (with_reducible exact Ext.refl _) | (with_reducible refine Ext.up ?_ _) | (with_reducible refine Ext.alloc ?_ _) | (with_reducible refine Ext.drew ?_) | (with_reducible refine Ext.setRow ?_ (by first | exact LeS.le | exact LeS.add _ | (simp; done) | (simp; omega)) _) | (with_reducible refine Ext.setCell ?_ (by first | exact LeS.le | exact LeS.add _ | (simp; done) | (simp; omega)) _))))⟩
set_option maxRecDepth 100000 in
set_option maxHeartbeats 4000000 in
theorem seen_any (s : List Ent) (L : List Lyr) (v vl : Value) (hs : entsOk 1 s = true) (hL : upTo (lyrAt L) L.length = true) : ∀ (f : Nat) (n : Int) (w : World), n + 1 ≤ f → -1 ≤ n → n < L.length → SL (RF Ent.enc) 2 w v s → SY w vl L →
    Calls Tryz.prog 39 #[v, vl, .int .i64 n] w fun e w' => e = .returned (.agg (vA (seenV s L n))) ∧ Up w w' := by
  have neg : ∀ (n : Int) (w : World), n < 0 → SL (RF Ent.enc) 2 w v s → Calls Tryz.prog 39 #[v, vl, .int .i64 n] w fun e w' => e = .returned (.agg (vA (seenV s L n))) ∧ Up w w' := by
    intro n w hn h
    rw [seenV_neg s L hn]
    have H := Lib.hid h; have HS := Lib.hid hs
    have hvl := valsOf_length s
    clear h hs hL
    go_enter Tryz.func39, Tryz.ntmps39
    go_wp2_with fail
    refine (valuesOf_any 1 s _ _ (H.out.up (by repeat (first | (with_reducible exact Ext.refl _) | (with_reducible refine Ext.up ?_ _) | (with_reducible refine Ext.alloc ?_ _) | (with_reducible refine Ext.drew ?_) | (with_reducible refine Ext.setRow ?_ (by first | exact LeS.le | exact LeS.add _ | (simp; done) | (simp; omega)) _) | (with_reducible refine Ext.setCell ?_ (by first | exact LeS.le | exact LeS.add _ | (simp; done) | (simp; omega)) _)))) HS.out).mono ?_; rintro e w' ⟨rfl, z, rfl⟩
    have R0 := Lib.hid ((Row.of_eq (heap_alloc_new _ _) vA_zeros.symm : Row 56 (w.alloc _) w.heap.size zeros).up z.ext)
    go_wp2_with (refine wpList_store_row rfl _ _ _ rfl _ _ rfl rfl _ _ R0.out.eq (by rw [vA_size, hvl]; exact Tryz.sVals) (by rw [vA_size, vA_size, hvl]; rfl) (vA_one _) ?_)
    refine bodyPost_ret (results_cell_row (p := 6) (by kernel_rfl) _ _ w.heap.size _ (vA (valsOf s)) (0, 0) _ rfl (R0.out.setRow _).eq Tryz.underlying56 rfl (by rw [vA_size, hvl]; exact Tryz.sVals)) rfl ⟨rfl, (.of (by repeat (first | exact Ext.refl _ | refine Ext.up ?_ _ | refine Ext.alloc ?_ _ | refine Ext.drew ?_ | refine Ext.setRow ?_ (by first | (dsimp only; omega) | exact LeS.le | exact LeS.add _ | (simp; done) | (simp; omega)) _ | refine Ext.setCell ?_ (by first | (dsimp only; omega) | exact LeS.le | exact LeS.add _ | (simp; done) | (simp; omega)) _)))⟩
  intro f
  induction f with
  | zero =>
    intro n w hf hn0 hn1 h hl
    exact neg n w (by omega) h
  | succ f ih =>
    intro n w hf hn0 hn1 h hl
    by_cases hn : n < 0
    · exact neg n w hn h
    obtain ⟨n, rfl⟩ : ∃ q : Nat, n = (q : Int) := ⟨n.toNat, by omega⟩
    obtain ⟨x, hxk⟩ := getElem?_some_of_lt (l := L) (k := n) (by omega)
    obtain ⟨a, cap, rfl, hlen, _, hc⟩ := hl.open
    obtain ⟨b, off, p, c, rfl, hb, e0, e1, sx⟩ := hc n x hxk
    obtain ⟨hb0, hb1, hbw⟩ := lyr_below hL hxk
    have hat := seenV_at (s := s) hL hxk
    have hvl := seenV_len (s := s) hL x.b
    obtain ⟨q, d, hq, hql, hcx⟩ := sx.open
    cases hq
    have HW := Lib.hid hbw
    have H := Lib.hid h; have HY := Lib.hid hl; have Hcx := Lib.hid hcx; have IH := Lib.hid ih
    rw [hat]
    generalize hV0 : seenV s L x.b = V0 at *
    have HV0 := Lib.hid hV0
    have n0 : (0 : Int) ≤ (n : Int) := by omega
    have hxb : x.b + 1 ≤ f := by omega
    have hxl : x.b < L.length := by omega
    clear neg h hl hc hxk sx hat hcx ih hbw hs hL hV0
    go_enter Tryz.func39, Tryz.ntmps39
    go_wp2_with fail
    refine (IH.out x.b _ hxb hb0 hxl (H.out.up (by repeat (first | (with_reducible exact Ext.refl _) | (with_reducible refine Ext.up ?_ _) | (with_reducible refine Ext.alloc ?_ _) | (with_reducible refine Ext.drew ?_) | (with_reducible refine Ext.setRow ?_ (by first | exact LeS.le | exact LeS.add _ | (simp; done) | (simp; omega)) _) | (with_reducible refine Ext.setCell ?_ (by first | exact LeS.le | exact LeS.add _ | (simp; done) | (simp; omega)) _)))) (HY.out.up (by repeat (first | (with_reducible exact Ext.refl _) | (with_reducible refine Ext.up ?_ _) | (with_reducible refine Ext.alloc ?_ _) | (with_reducible refine Ext.drew ?_) | (with_reducible refine Ext.setRow ?_ (by first | exact LeS.le | exact LeS.add _ | (simp; done) | (simp; omega)) _) | (with_reducible refine Ext.setCell ?_ (by first | exact LeS.le | exact LeS.add _ | (simp; done) | (simp; omega)) _))))).mono ?_; rintro e w' ⟨rfl, z1, rfl⟩
    rw [HV0.out]
    have R0 := Lib.hid ((Row.of_eq (heap_alloc_new _ _) vA_zeros.symm : Row 56 (w.alloc _) w.heap.size zeros).up z1.ext)
    have tok : True := trivial
    go_wp2_with (have _t := tok; refine wpList_store_new rfl _ _ _ rfl rfl rfl rfl (by rw [hvl]; exact Tryz.sVals) (by rw [hvl]; rfl) ?_; intro z5 r5; clear _t tok; have R5 := Lib.hid r5; clear r5)
    have hz1 := z1.ext.size
    simp at hz1
    have R05 := Lib.hid (R0.out.up z5.ext)
    clear R0
    have hGw : w.heap.size < z1.val.heap.size := by omega
    have E5 : Ext w z5.val := (by repeat (first | (with_reducible exact Ext.refl _) | (with_reducible refine Ext.up ?_ _) | (with_reducible refine Ext.alloc ?_ _) | (with_reducible refine Ext.drew ?_) | (with_reducible refine Ext.setRow ?_ (by first | exact LeS.le | exact LeS.add _ | (simp; done) | (simp; omega)) _) | (with_reducible refine Ext.setCell ?_ (by first | exact LeS.le | exact LeS.add _ | (simp; done) | (simp; omega)) _)))
    have HE5 := Lib.hid E5; clear E5
    generalize z1.val.heap.size = G at *
    go_loopw [9, 28] (fun _ s28 wr => ∃ k : Nat, s28 = .int .i64 k ∧ k ≤ x.w.length ∧ Up w wr ∧ Row 56 wr w.heap.size zeros ∧ Row 56 wr G (vsets V0 (x.w.take k))) (fun _ s28 _ => x.w.length - (intOf s28).toNat)
    case atStart => exact ⟨0, rfl, Nat.zero_le _, .of HE5.out, R05.out, R5.out⟩
    case round =>
      obtain ⟨k, rfl, hk, ⟨z, rfl⟩, r0, r1⟩ := hrel
      by_cases hlt : k < x.w.length
      · obtain ⟨y, hyk⟩ := getElem?_some_of_lt hlt
        obtain ⟨b', off', rfl, hb', hcc⟩ := Hcx.out k y hyk
        have c0 : w.cell? ⟨b', off' + k * 2, none⟩ = some (.int .i64 y.k) := hcc 0 _ rfl
        have c1 : w.cell? ⟨b', off' + k * 2 + 1, none⟩ = some (.int .i64 y.v) := hcc 1 _ rfl
        obtain ⟨k0, k1, _, _⟩ := entsOk_at HW.out hyk
        obtain ⟨y', hy'⟩ := getElem?_some_of_lt (l := vsets V0 (x.w.take k)) (k := y.k.toNat) (by rw [vsets_length, hvl]; omega)
        have d0 := r1.cell hy'
        have f0 := r1.frozen y.k.toNat
        have hL := r1.lts
        have R0 := Lib.hid r0; have R1 := Lib.hid r1
        have Hs := Lib.hid (vsets_snoc V0 hyk)
        clear hcc hyk hy' r0 r1
        go_wp2_with fail
        go_roundw
        case rel => exact ⟨k + 1, by go_num, by omega, (.of (by repeat (first | exact Ext.refl _ | refine Ext.up ?_ _ | refine Ext.alloc ?_ _ | refine Ext.drew ?_ | refine Ext.setRow ?_ (by first | (dsimp only; omega) | exact LeS.le | exact LeS.add _ | (simp; done) | (simp; omega)) _ | refine Ext.setCell ?_ (by first | (dsimp only; omega) | exact LeS.le | exact LeS.add _ | (simp; done) | (simp; omega)) _))), (R0.out.alloc _).other _ (by show w.heap.size ≠ G; omega), by rw [Hs.out]; exact (R1.out.alloc _).set _ _⟩
        case measure => simp [intOf]; omega
      · obtain rfl : k = x.w.length := by omega
        rw [List.take_length] at r1
        have R1 := Lib.hid r1; have R0 := Lib.hid r0
        clear r1 r0
        go_wp2_with (first | (refine wpList_load_row rfl _ _ rfl _ rfl _ _ _ _ R1.out.eq Tryz.underlying56 rfl (by rw [vA_size, vsets_length, hvl]; exact Tryz.sVals) ?_) | (refine wpList_store_row rfl _ _ _ rfl _ _ rfl rfl _ _ R0.out.eq (by rw [vA_size, vsets_length, hvl]; exact Tryz.sVals) (by rw [vA_size, vA_size, vsets_length, hvl]; rfl) (vA_one _) ?_))
        refine bodyPost_ret (results_cell_row (p := 6) (by kernel_rfl) _ _ w.heap.size _ (vA (vsets V0 x.w)) (0, 0) _ rfl (R0.out.setRow _).eq Tryz.underlying56 rfl (by rw [vA_size, vsets_length, hvl]; exact Tryz.sVals)) rfl ⟨rfl, (.of (by repeat (first | exact Ext.refl _ | refine Ext.up ?_ _ | refine Ext.alloc ?_ _ | refine Ext.drew ?_ | refine Ext.setRow ?_ (by first | (dsimp only; omega) | exact LeS.le | exact LeS.add _ | (simp; done) | (simp; omega)) _ | refine Ext.setCell ?_ (by first | (dsimp only; omega) | exact LeS.le | exact LeS.add _ | (simp; done) | (simp; omega)) _)))⟩
set_option maxRecDepth 100000 in
set_option maxHeartbeats 1000000 in
theorem iLayerStore_yes (s : List Ent) (L : List Lyr) (v vl : Value) (n : Int) (w : World) (h : SL (RF Ent.enc) 2 w v s) (hl : SY w vl L) (hs : entsOk 1 s = true) (hL : lyrsOk L = true) (hn0 : -1 ≤ n) (hn1 : n < L.length) :
    Calls Tryz.prog 12 #[v, vl, .int .i64 n] w fun e w' => ∃ v', e = .returned v' ∧ Up w w' ∧ Own Ent.enc 64 2 w.heap.size w' v' (storeOf (seenV s L n)) := by
  obtain ⟨p0, c0, rfl, _, _⟩ := h.openc
  obtain ⟨a, cap, rfl⟩ := hl.openc
  obtain ⟨h1, h2⟩ := lyrsOk_iff.1 hL
  have H := Lib.hid h; have HY := Lib.hid hl
  have kf := fun w h h' => layersFit_yes s L (.slice p0 s.length c0) (.slice a L.length cap) n w h h' hs hL hn0 hn1
  have kn := fun w h h' => seen_any s L (.slice p0 s.length c0) (.slice a L.length cap) hs h1 (n + 1).toNat n w (by omega) hn0 hn1 h h'
  have hsl := seenV_len (s := s) h1 n
  generalize seenV s L n = V at *
  clear h hl hs hL h1
  go_enter Tryz.func12, Tryz.ntmps12
  go_wp2_with (first | (go_at_call 38; refine (kf _ (H.out.up (by repeat (first | (with_reducible exact Ext.refl _) | (with_reducible refine Ext.up ?_ _) | (with_reducible refine Ext.alloc ?_ _) | (with_reducible refine Ext.drew ?_) | (with_reducible refine Ext.setRow ?_ (by first | exact LeS.le | exact LeS.add _ | (simp; done) | (simp; omega)) _) | (with_reducible refine Ext.setCell ?_ (by first | exact LeS.le | exact LeS.add _ | (simp; done) | (simp; omega)) _)))) (HY.out.up (by repeat (first | (with_reducible exact Ext.refl _) | (with_reducible refine Ext.up ?_ _) | (with_reducible refine Ext.alloc ?_ _) | (with_reducible refine Ext.drew ?_) | (with_reducible refine Ext.setRow ?_ (by first | exact LeS.le | exact LeS.add _ | (simp; done) | (simp; omega)) _) | (with_reducible refine Ext.setCell ?_ (by first | exact LeS.le | exact LeS.add _ | (simp; done) | (simp; omega)) _))))).mono ?_; rintro e w' ⟨rfl, z1, rfl⟩) | (go_at_call 39; refine (kn _ (H.out.up (by repeat (first | (with_reducible exact Ext.refl _) | (with_reducible refine Ext.up ?_ _) | (with_reducible refine Ext.alloc ?_ _) | (with_reducible refine Ext.drew ?_) | (with_reducible refine Ext.setRow ?_ (by first | exact LeS.le | exact LeS.add _ | (simp; done) | (simp; omega)) _) | (with_reducible refine Ext.setCell ?_ (by first | exact LeS.le | exact LeS.add _ | (simp; done) | (simp; omega)) _)))) (HY.out.up (by repeat (first | (with_reducible exact Ext.refl _) | (with_reducible refine Ext.up ?_ _) | (with_reducible refine Ext.alloc ?_ _) | (with_reducible refine Ext.drew ?_) | (with_reducible refine Ext.setRow ?_ (by first | exact LeS.le | exact LeS.add _ | (simp; done) | (simp; omega)) _) | (with_reducible refine Ext.setCell ?_ (by first | exact LeS.le | exact LeS.add _ | (simp; done) | (simp; omega)) _))))).mono ?_; rintro e w' ⟨rfl, z2, rfl⟩) | (go_at_call 40; refine (store_any V _ hsl).mono ?_; rintro e w' ⟨v6, rfl, ⟨z6, rfl⟩, o6⟩))
  go_ret
  exact ⟨_, rfl, (.of (by repeat (first | (with_reducible exact Ext.refl _) | (with_reducible refine Ext.up ?_ _) | (with_reducible refine Ext.alloc ?_ _) | (with_reducible refine Ext.drew ?_) | (with_reducible refine Ext.setRow ?_ (by first | exact LeS.le | exact LeS.add _ | (simp; done) | (simp; omega)) _) | (with_reducible refine Ext.setCell ?_ (by first | exact LeS.le | exact LeS.add _ | (simp; done) | (simp; omega)) _)))), o6.lo LeS.le⟩
end Go.Proofs.YteiemjebdhmnaaaGreat
namespace Go.Proofs.YteiemjebdhmnaaaGreat
open Go Go.RowKit Go.Proofs

theorem flatMap_set {α : Type} {enc : α → List Value} {sz : Nat} (he : ∀ x, (enc x).length = sz) {x' : α} {j : Nat} {u : Value} (hj : j < sz) : ∀ {l : List α} {k : Nat} {x : α}, l[k]? = some x → enc x' = (enc x).set j u → (l.flatMap enc).set (k * sz + j) u = (l.set k x').flatMap enc
  | [], k, x, h, _ => by simp at h
  | y :: l, 0, x, h, hu => by
    simp at h; subst h
    rw [List.set_cons_zero, List.flatMap_cons, List.flatMap_cons, hu, List.set_append_left _ _ (by rw [he]; omega)]
    simp
  | y :: l, k + 1, x, h, hu => by
    simp at h
    rw [List.set_cons_succ, List.flatMap_cons, List.flatMap_cons, List.set_append_right _ _ (by rw [he, Nat.succ_mul]; omega), he, show (k + 1) * sz + j - sz = k * sz + j from by rw [Nat.succ_mul]; omega]
    rw [flatMap_set he hj h hu]
theorem Own.setAt {α : Type} {enc : α → List Value} {e sz lo g n c : Nat} (he : ∀ x, (enc x).length = sz) {w : World} {l : List α} (h : Own enc e sz lo w (.slice (some ⟨g, 0, none⟩) n c) l) {k : Nat} {x x' : α} {j : Nat} {u : Value} (hx : l[k]? = some x) (hj : j < sz) (hu : enc x' = (enc x).set j u) :
    Own enc e sz lo (w.setCell ⟨g, k * sz + j, none⟩ u) (.slice (some ⟨g, 0, none⟩) n c) (l.set k x') := by
  have hn : n = l.length := by
    rcases h.2 with ⟨h0, _⟩ | ⟨g', cap', cur, hv, _⟩
    · cases h0
    · cases hv; rfl
  subst hn
  have h2 := (World.ownsRow.stored h (k * sz + j) u).1
  rw [flatMap_set he hj hx hu] at h2
  show World.ownsRow _ _ _ _ _ _ _
  rw [List.length_set]
  exact h2
section
variable {eE eB eA eI lo : Nat} {w w' : World} {v0 v1 v2 : Value} {base : List Ent} {bs : List TB} {pr : List Int}
theorem ob_pair {bs : List TB} : bs.Pairwise (fun x y => Apart x.v y.v) ↔ (bs.map TB.v).Pairwise Apart := by rw [List.pairwise_map]
theorem map_set_v {bs : List TB} {k : Nat} {x x' : TB} (hx : bs[k]? = some x) (hv : x'.v = x.v) : (bs.set k x').map TB.v = bs.map TB.v := by
  rw [List.map_set]
  apply List.ext_getElem?
  intro i
  rw [List.getElem?_set]
  split
  · rename_i e
    subst e
    split
    · rw [List.getElem?_map, hx, hv]; rfl
    · rename_i h1
      have := (List.getElem?_eq_some_iff.1 hx).1
      simp at h1; omega
  · rfl
theorem OTA.setB {g n c : Nat} (h : OTA eE eB eA eI lo w v0 (.slice (some ⟨g, 0, none⟩) n c) v2 base bs pr) {k : Nat} {x x' : TB} {j : Nat} {u : Value} (hx : bs[k]? = some x) (hj : j < 6) (hu : x'.enc = x.enc.set j u) (hv : x'.v = x.v) (hl : x'.l = x.l) :
    OTA eE eB eA eI lo (w.setCell ⟨g, k * 6 + j, none⟩ u) v0 (.slice (some ⟨g, 0, none⟩) n c) v2 base (bs.set k x') pr := by
  have hm := List.mem_of_getElem? hx
  have ne : ∀ v : Value, Apart v (.slice (some ⟨g, 0, none⟩) n c) → v.ownBlock = none ∨ v.ownBlock ≠ some g := fun v a => a
  have hmem : ∀ y ∈ bs.set k x', ∃ z ∈ bs, y.v = z.v ∧ y.l = z.l := fun y hy => by
    rcases List.mem_or_eq_of_mem_set hy with hy | rfl
    · exact ⟨y, hy, rfl, rfl⟩
    · exact ⟨x, hm, hv, hl⟩
  refine ⟨h.obase.setApart _ u (ne _ h.a01), ⟨Own.setAt TB.enc_length h.obs.1 hx hj hu, fun y hy => ?_, ?_⟩, h.opr.setApart _ u (ne _ h.a21), h.a01, h.a21, h.a02, fun y hy => ?_, fun y hy => ?_⟩
  · obtain ⟨z, hz, e1, e2⟩ := hmem y hy
    rw [e1, e2]
    exact ⟨(h.obs.2.1 z hz).1.setApart _ u (ne _ (h.obs.2.1 z hz).2), (h.obs.2.1 z hz).2⟩
  · rw [ob_pair, map_set_v hx hv, ← ob_pair]; exact h.obs.2.2
  · obtain ⟨z, hz, e1, _⟩ := hmem y hy
    rw [e1]; exact h.in0 z hz
  · obtain ⟨z, hz, e1, _⟩ := hmem y hy
    rw [e1]; exact h.in2 z hz
theorem OTA.setI {g n c : Nat} (h : OTA eE eB eA eI lo w v0 v1 (.slice (some ⟨g, 0, none⟩) n c) base bs pr) {k : Nat} {a b : Int} (hx : pr[k]? = some a) :
    OTA eE eB eA eI lo (w.setCell ⟨g, k, none⟩ (.int .i64 b)) v0 v1 (.slice (some ⟨g, 0, none⟩) n c) base bs (pr.set k b) := by
  have ne : ∀ v : Value, Apart v (.slice (some ⟨g, 0, none⟩) n c) → v.ownBlock = none ∨ v.ownBlock ≠ some g := fun v a => a
  have ho := Own.setAt encI_length h.opr (x' := b) (j := 0) (u := .int .i64 b) hx (by decide) rfl
  rw [Nat.mul_one, Nat.add_zero] at ho
  exact ⟨h.obase.setApart _ _ (ne _ h.a02), ⟨h.obs.1.setApart _ _ (ne _ h.a21.symm), fun x hx => ⟨(h.obs.2.1 x hx).1.setApart _ _ (ne _ (h.in2 x hx)), (h.obs.2.1 x hx).2⟩, h.obs.2.2⟩, ho, h.a01, h.a21, h.a02, h.in0, h.in2⟩
theorem OTA.snocE {v0' : Value} {x : Ent} (h : OTA eE eB eA eI lo w v0 v1 v2 base bs pr) (hg : w.grownBy w' v0.ownBlock) (hb : v0'.ownBlock = v0.ownBlock ∨ v0'.ownBlock = some w.heap.size)
    (ho : Own Ent.enc eE 2 lo w' v0' (base ++ [x])) : OTA eE eB eA eI lo w' v0' v1 v2 (base ++ [x]) bs pr := by
  refine ⟨ho, ⟨h.obs.1.keep hg h.a01.symm, fun x hx => ⟨(h.obs.2.1 x hx).1.keep hg (h.in0 x hx), (h.obs.2.1 x hx).2⟩, h.obs.2.2⟩, h.opr.keep hg h.a02.symm, ?_, h.a21, ?_, fun x hx => Apart.grown (h.obs.2.1 x hx).1 (h.in0 x hx) (Nat.le_refl _) hb, h.in2⟩
  · exact (Apart.grown h.obs.1 h.a01.symm (Nat.le_refl _) hb).symm
  · exact (Apart.grown h.opr h.a02.symm (Nat.le_refl _) hb).symm
theorem OTA.rowB {m : Nat} (h : OTA eE eB eA eI lo w v0 v1 v2 base bs pr) (hm : m < bs.length) : ∃ (g off c : Nat) (x : TB), v1 = .slice (some ⟨g, off, none⟩) bs.length c ∧ off = 0 ∧ bs[m]? = some x ∧ LtS g w ∧ lo ≤ g ∧ w.cell? ⟨g, off + m * 6 + 1, none⟩ = some (.int .i64 x.b.ht) ∧ w.frozen? ⟨g, off + m * 6 + 1, none⟩ = false := by
  obtain ⟨x, hx⟩ := getElem?_some_of_lt hm
  obtain ⟨a, c, hv, _, hcc⟩ := (h.obs.1.sl TB.enc_length).open
  rcases h.obs.1.2 with ⟨h0, hn⟩ | ⟨g, cap, cur, hv', hlo, hg, _⟩
  · omega
  · have h1 := h.obs.1
    rw [hv] at hv'
    cases hv'
    obtain ⟨b, off, e, _, hcell⟩ := hcc m x hx
    cases e
    subst hv
    exact ⟨g, 0, c, x, rfl, rfl, hx, ⟨(Array.getElem?_eq_some_iff.1 hg).1⟩, hlo, hcell 1 _ rfl, World.ownsRow.frozenAt h1 _⟩
theorem OTA.rowI {m : Nat} (h : OTA eE eB eA eI lo w v0 v1 v2 base bs pr) (hm : m < pr.length) : ∃ (g off c : Nat) (a : Int), v2 = .slice (some ⟨g, off, none⟩) pr.length c ∧ off = 0 ∧ pr[m]? = some a ∧ LtS g w ∧ lo ≤ g ∧ w.cell? ⟨g, off + m, none⟩ = some (.int .i64 a) ∧ w.frozen? ⟨g, off + m, none⟩ = false := by
  obtain ⟨x, hx⟩ := getElem?_some_of_lt hm
  obtain ⟨a, c, hv, _, hcc⟩ := (h.opr.sl encI_length).open
  rcases h.opr.2 with ⟨h0, hn⟩ | ⟨g, cap, cur, hv', hlo, hg, _⟩
  · omega
  · have h1 := h.opr
    rw [hv] at hv'
    cases hv'
    obtain ⟨b, off, e, _, hcell⟩ := hcc m x hx
    cases e
    subst hv
    have hc0 := hcell 0 _ rfl
    rw [Nat.mul_one, Nat.add_zero] at hc0
    exact ⟨g, 0, c, x, rfl, rfl, hx, ⟨(Array.getElem?_eq_some_iff.1 hg).1⟩, hlo, hc0, World.ownsRow.frozenAt h1 _⟩
end
/-- What LT keeps without 'valid': for the tree that is bent. -/
structure LB (eT eE eB eA eI rb G : Nat) (w wr : World) (u0 u1 u2 : Value) (t : Tree) (bs : List TB) : Prop where
  gb : w.grownBy wr (some rb)
  box : wr.heap[G]? = some (.cells #[u0, u1, u2] eT (0, 0))
  res : wr.heap[w.heap.size]? = some (.cells #[.slice none 0 0, .slice none 0 0, .slice none 0 0] eT (0, 0))
  ot : OTA eE eB eA eI (w.heap.size + 1) wr u0 u1 u2 t.base bs t.pr
  core : bs.map TB.core = t.bs
theorem LT.lb {eT eE eB eA eI rb G : Nat} {w wr : World} {u0 u1 u2 : Value} {t : Tree} {bs : List TB} (h : LT eT eE eB eA eI rb G w wr u0 u1 u2 t bs) : LB eT eE eB eA eI rb G w wr u0 u1 u2 t bs := ⟨h.gb, h.box, h.res, h.ot, h.core⟩
end Go.Proofs.YteiemjebdhmnaaaGreat
