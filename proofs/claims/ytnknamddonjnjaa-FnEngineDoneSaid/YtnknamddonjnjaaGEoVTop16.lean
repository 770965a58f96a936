/- Walks: engines on the program's side: effects that are equal, what an action reads now. Walks: engines on the program's side: whether an action reads what it read before. -/
import Derived.Test.YtnknamddonjnjaaGEoVTop14
import Derived.Test.YtnknamddonjnjaaGEoVTop15
set_option linter.unusedSimpArgs false
set_option linter.unusedVariables false
namespace Go.Proofs.Ytnknamddonjnjaa
open Go Go.RowKit Go.Proofs

set_option maxRecDepth 100000 in
set_option maxHeartbeats 1000000 in
theorem iSameEf_any (x y : Eff) (v0 v1 u0 u1 : Value) (w : World) (h0 : SL (RF Ent.enc) 2 w v0 x.r) (h1 : SL (RF Ent.enc) 2 w v1 x.w) (k0 : SL (RF Ent.enc) 2 w u0 y.r) (k1 : SL (RF Ent.enc) 2 w u1 y.w) :
    Calls Try.prog 40 #[.agg #[.bool x.d, v0, v1], .agg #[.bool y.d, u0, u1]] w fun e w' => e = .returned (.bool (sameEf x y)) ∧ Up w w' := by
  have H0 := Lib.hid h0; have H1 := Lib.hid h1; have K0 := Lib.hid k0; have K1 := Lib.hid k1
  obtain ⟨p0, c0, rfl, _, _⟩ := h0.openc
  obtain ⟨p1, c1, rfl, _, _⟩ := h1.openc
  obtain ⟨p2, c2, rfl, _, _⟩ := k0.openc
  obtain ⟨p3, c3, rfl, _, _⟩ := k1.openc
  have kr := fun w h h' => eqEnts_any x.r y.r (.slice p0 x.r.length c0) (.slice p2 y.r.length c2) w h h'
  have kw := fun w h h' => eqEnts_any x.w y.w (.slice p1 x.w.length c1) (.slice p3 y.w.length c3) w h h'
  have hF := Lib.hid (show sameEf x y = ((x.d == y.d) && (sameL sameE1 x.r y.r && sameL sameE1 x.w y.w)) from rfl)
  generalize sameEf x y = b at *
  generalize sameL sameE1 x.r y.r = b1 at *
  generalize sameL sameE1 x.w y.w = b2 at *
  clear h0 h1 k0 k1
  rcases hd : (x.d == y.d) with _ | _
  · rw [hd] at hF
    obtain rfl : b = false := hF.out
    clear hF kr kw
    go_enter Try.func40, Try.ntmps40
    go_wp2_with fail
    go_ret
    exact ⟨rfl, (.of (by repeat (first | (with_reducible exact Ext.refl _) | (with_reducible refine Ext.up ?_ _) | (with_reducible refine Ext.alloc ?_ _) | (with_reducible refine Ext.drew ?_) | (with_reducible refine Ext.setRow ?_ (by first | exact LeS.le | exact LeS.add _ | (simp; done) | (simp; omega)) _) | (with_reducible refine Ext.setCell ?_ (by first | exact LeS.le | exact LeS.add _ | (simp; done) | (simp; omega)) _))))⟩
  rw [hd] at hF
  rcases b1 with _ | _
  · obtain rfl : b = false := hF.out
    clear hF kw
    go_enter Try.func40, Try.ntmps40
    go_wp2_with fail
    refine (kr _ (H0.out.up (by repeat (first | (with_reducible exact Ext.refl _) | (with_reducible refine Ext.up ?_ _) | (with_reducible refine Ext.alloc ?_ _) | (with_reducible refine Ext.drew ?_) | (with_reducible refine Ext.setRow ?_ (by first | exact LeS.le | exact LeS.add _ | (simp; done) | (simp; omega)) _) | (with_reducible refine Ext.setCell ?_ (by first | exact LeS.le | exact LeS.add _ | (simp; done) | (simp; omega)) _)))) (K0.out.up (by repeat (first | (with_reducible exact Ext.refl _) | (with_reducible refine Ext.up ?_ _) | (with_reducible refine Ext.alloc ?_ _) | (with_reducible refine Ext.drew ?_) | (with_reducible refine Ext.setRow ?_ (by first | exact LeS.le | exact LeS.add _ | (simp; done) | (simp; omega)) _) | (with_reducible refine Ext.setCell ?_ (by first | exact LeS.le | exact LeS.add _ | (simp; done) | (simp; omega)) _))))).mono ?_; rintro e w' ⟨rfl, z1, rfl⟩
    go_wp2_with fail
    go_ret
    exact ⟨rfl, (.of (by repeat (first | (with_reducible exact Ext.refl _) | (with_reducible refine Ext.up ?_ _) | (with_reducible refine Ext.alloc ?_ _) | (with_reducible refine Ext.drew ?_) | (with_reducible refine Ext.setRow ?_ (by first | exact LeS.le | exact LeS.add _ | (simp; done) | (simp; omega)) _) | (with_reducible refine Ext.setCell ?_ (by first | exact LeS.le | exact LeS.add _ | (simp; done) | (simp; omega)) _))))⟩
  · obtain rfl : b = b2 := by have := hF.out; simpa using this
    clear hF
    go_enter Try.func40, Try.ntmps40
    go_wp2_with fail
    refine (kr _ (H0.out.up (by repeat (first | (with_reducible exact Ext.refl _) | (with_reducible refine Ext.up ?_ _) | (with_reducible refine Ext.alloc ?_ _) | (with_reducible refine Ext.drew ?_) | (with_reducible refine Ext.setRow ?_ (by first | exact LeS.le | exact LeS.add _ | (simp; done) | (simp; omega)) _) | (with_reducible refine Ext.setCell ?_ (by first | exact LeS.le | exact LeS.add _ | (simp; done) | (simp; omega)) _)))) (K0.out.up (by repeat (first | (with_reducible exact Ext.refl _) | (with_reducible refine Ext.up ?_ _) | (with_reducible refine Ext.alloc ?_ _) | (with_reducible refine Ext.drew ?_) | (with_reducible refine Ext.setRow ?_ (by first | exact LeS.le | exact LeS.add _ | (simp; done) | (simp; omega)) _) | (with_reducible refine Ext.setCell ?_ (by first | exact LeS.le | exact LeS.add _ | (simp; done) | (simp; omega)) _))))).mono ?_; rintro e w' ⟨rfl, z1, rfl⟩
    go_wp2_with fail
    refine (kw _ (H1.out.up (by repeat (first | (with_reducible exact Ext.refl _) | (with_reducible refine Ext.up ?_ _) | (with_reducible refine Ext.alloc ?_ _) | (with_reducible refine Ext.drew ?_) | (with_reducible refine Ext.setRow ?_ (by first | exact LeS.le | exact LeS.add _ | (simp; done) | (simp; omega)) _) | (with_reducible refine Ext.setCell ?_ (by first | exact LeS.le | exact LeS.add _ | (simp; done) | (simp; omega)) _)))) (K1.out.up (by repeat (first | (with_reducible exact Ext.refl _) | (with_reducible refine Ext.up ?_ _) | (with_reducible refine Ext.alloc ?_ _) | (with_reducible refine Ext.drew ?_) | (with_reducible refine Ext.setRow ?_ (by first | exact LeS.le | exact LeS.add _ | (simp; done) | (simp; omega)) _) | (with_reducible refine Ext.setCell ?_ (by first | exact LeS.le | exact LeS.add _ | (simp; done) | (simp; omega)) _))))).mono ?_; rintro e w' ⟨rfl, z2, rfl⟩
    go_wp2_with fail
    go_ret
    exact ⟨rfl, (.of (by repeat (first | (with_reducible exact Ext.refl _) | (with_reducible refine Ext.up ?_ _) | (with_reducible refine Ext.alloc ?_ _) | (with_reducible refine Ext.drew ?_) | (with_reducible refine Ext.setRow ?_ (by first | exact LeS.le | exact LeS.add _ | (simp; done) | (simp; omega)) _) | (with_reducible refine Ext.setCell ?_ (by first | exact LeS.le | exact LeS.add _ | (simp; done) | (simp; omega)) _))))⟩
theorem nowL_snoc (s : List Ent) (V : List Ver) (n : Int) {rk : List Int} {k : Nat} {key : Int} (h : rk[k]? = some key) : nowL s V n (rk.take (k + 1)) = nowL s V n (rk.take k) ++ [⟨key, (readV (atK s key) V key n).1⟩] := by
  rw [List.take_add_one, h]; simp [nowL]
theorem nowF_snoc (s : List Ent) (V : List Ver) (n : Int) {rk : List Int} {k : Nat} {key : Int} (h : rk[k]? = some key) : nowF s V n (rk.take (k + 1)) = nowF s V n (rk.take k) ++ [(readV (atK s key) V key n).2] := by
  rw [List.take_add_one, h]; simp [nowF]
theorem vsets_append1 (v : List Int) (l : List Ent) (e : Ent) : vsets v (l ++ [e]) = vset (vsets v l) e := by simp [vsets]
set_option maxRecDepth 100000 in
set_option maxHeartbeats 4000000 in
theorem now_any (e : Eng) (v0 v1 v2 v3 : Value) (n : Nat) (x : Actn) (w : World) (h : SG w v0 v1 v2 v3 e) (hs : entsOk 1 e.base = true) (hx : e.acts[n]? = some x) (hxo : x.ok = true) :
    Calls Try.prog 47 #[.agg #[v0, v1, v2, v3], .int .i64 n] w fun ed w' => ∃ vf, ed = .returned (.tuple #[.agg (vA (vsets (valsOf e.base) (nowL e.base e.vers n x.rk))), vf]) ∧ Up w w' ∧ Own encI 3 1 w.heap.size w' vf (nowF e.base e.vers n x.rk) := by
  have HB := Lib.hid h.base; have HV := Lib.hid h.vers
  obtain ⟨p0, c0, rfl, _, _⟩ := h.base.openc
  obtain ⟨p1, c1, rfl, _, hca⟩ := h.acts.open
  obtain ⟨p2, c2, rfl, _, _⟩ := h.vers.openc
  obtain ⟨p3, c3, rfl, _, -⟩ := h.sl.open
  obtain ⟨b, off, rfl, hb, -⟩ := hca n x hx
  obtain ⟨a0, a1, a2, a3⟩ := acell hca rfl hx
  have hn0 : (0 : Int) ≤ (n : Int) := by omega
  have hn1 : (n : Int) < e.acts.length := by have := (List.getElem?_eq_some_iff.1 hx).1; omega
  have Hs := Lib.hid hs
  have hrk := Lib.hid (Actn.rk_in hxo)
  have hrl := Actn.rk_le x
  have kre := fun w => reads_any x w
  obtain ⟨base, acts, vers, sl⟩ := e
  dsimp only at *
  clear h hca hx hxo hs
  go_enter Try.func47, Try.ntmps47
  have tok1 : True := trivial
  have tok2 : True := trivial
  go_wp2_with (first | (go_at_call 76; refine (valuesOf_any 1 base _ _ (HB.out.up (by repeat (first | (with_reducible exact Ext.refl _) | (with_reducible refine Ext.up ?_ _) | (with_reducible refine Ext.alloc ?_ _) | (with_reducible refine Ext.drew ?_) | (with_reducible refine Ext.setRow ?_ (by first | exact LeS.le | exact LeS.add _ | (simp; done) | (simp; omega)) _) | (with_reducible refine Ext.setCell ?_ (by first | exact LeS.le | exact LeS.add _ | (simp; done) | (simp; omega)) _)))) Hs.out).mono ?_; rintro e w' ⟨rfl, z3, rfl⟩) | (have _t := tok1; refine wpList_store_new rfl _ _ _ rfl rfl rfl rfl (by rw [valsOf_length]; exact Try.sVals) (by rw [valsOf_length]; rfl) ?_; intro z4 r4; clear _t tok1) | (have _t := tok2; refine wpList_store_new rfl _ _ _ rfl rfl rfl rfl (by rw [valsOf_length]; exact Try.sVals) (by rw [valsOf_length]; rfl) ?_; intro z5 r5; clear _t tok2) | (refine wpList_load_row rfl _ _ rfl _ rfl _ _ _ _ r4.eq Try.underlying71 rfl (by rw [vA_size, valsOf_length]; exact Try.sVals) ?_) | ((go_at_call 41; refine (kre _).mono ?_; rintro e w' ⟨vk, rfl, ⟨z6, rfl⟩, ok⟩); obtain ⟨pk, ck, rfl, _, _⟩ := (ok.sl encI_length).openc))
  have r0 : Row 71 z3.val (w.heap.size + 1) zeros := (z3.ext.block (by simp)).trans (Row.of_eq (heap_alloc2_new _ _ _) vA_zeros.symm)
  have h3 := z3.ext.size
  have h4 := z4.ext.size
  have h5 := z5.ext.size
  have h6 := z6.ext.size
  simp at h3 h4 h5
  have Hne := Lib.hid (show z3.val.heap.size ≠ z4.val.heap.size by have := r4.lt; omega)
  have hG7 := r5.lt
  have R0 := Lib.hid (r0.up (z4.ext.trans (z5.ext.trans z6.ext)))
  have R4 := Lib.hid (r4.up (z5.ext.trans z6.ext))
  have R5 := Lib.hid (r5.up z6.ext)
  have hW1 : Ext (w.alloc (.cells #[.slice p0 base.length c0, .slice (some ⟨b, off, none⟩) acts.length c1, .slice p2 vers.length c2, .slice p3 sl.length c3] 28)) z6.val := (by repeat (first | (with_reducible exact Ext.refl _) | (with_reducible refine Ext.up ?_ _) | (with_reducible refine Ext.alloc ?_ _) | (with_reducible refine Ext.drew ?_) | (with_reducible refine Ext.setRow ?_ (by first | exact LeS.le | exact LeS.add _ | (simp; done) | (simp; omega)) _) | (with_reducible refine Ext.setCell ?_ (by first | exact LeS.le | exact LeS.add _ | (simp; done) | (simp; omega)) _)))
  have hle : (w.alloc (.cells #[.slice p0 base.length c0, .slice (some ⟨b, off, none⟩) acts.length c1, .slice p2 vers.length c2, .slice p3 sl.length c3] 28)).heap.size ≤ z4.val.heap.size := by simp; omega
  have hbox : LtS w.heap.size (w.alloc (.cells #[.slice p0 base.length c0, .slice (some ⟨b, off, none⟩) acts.length c1, .slice p2 vers.length c2, .slice p3 sl.length c3] 28)) := inferInstance
  have b2 : (w.alloc (.cells #[.slice p0 base.length c0, .slice (some ⟨b, off, none⟩) acts.length c1, .slice p2 vers.length c2, .slice p3 sl.length c3] 28)).cell? ⟨w.heap.size, 2, none⟩ = some (.slice p2 vers.length c2) := by go_simp
  have hE1 : Ext w (w.alloc (.cells #[.slice p0 base.length c0, .slice (some ⟨b, off, none⟩) acts.length c1, .slice p2 vers.length c2, .slice p3 sl.length c3] 28)) := (by repeat (first | (with_reducible exact Ext.refl _) | (with_reducible refine Ext.up ?_ _) | (with_reducible refine Ext.alloc ?_ _) | (with_reducible refine Ext.drew ?_) | (with_reducible refine Ext.setRow ?_ (by first | exact LeS.le | exact LeS.add _ | (simp; done) | (simp; omega)) _) | (with_reducible refine Ext.setCell ?_ (by first | exact LeS.le | exact LeS.add _ | (simp; done) | (simp; omega)) _)))
  have HV1 := Lib.hid (HV.out.up hE1)
  have hs1 : w.heap.size + 1 ≤ (w.alloc (.cells #[.slice p0 base.length c0, .slice (some ⟨b, off, none⟩) acts.length c1, .slice p2 vers.length c2, .slice p3 sl.length c3] 28)).heap.size := by simp
  generalize w.alloc (.cells #[.slice p0 base.length c0, .slice (some ⟨b, off, none⟩) acts.length c1, .slice p2 vers.length c2, .slice p3 sl.length c3] 28) = W1 at *
  have hu := Lib.hid ok.under
  have OK := Lib.hid ok; clear ok
  have hrkl := Lib.hid (show (nowF base vers n x.rk).length = x.rk.length by simp [nowF])
  clear r0 r4 r5
  go_loopw [8, 10, 11, 12, 24] (fun s8 _ _ _ s24 wr => ∃ (k : Nat), s24 = .int .i64 k ∧ k ≤ x.rk.length ∧ (Up W1 wr ∧ z6.val.heap.size ≤ wr.heap.size) ∧ Row 71 wr (w.heap.size + 1) zeros ∧ Row 71 wr z3.val.heap.size (valsOf base) ∧ Row 71 wr z4.val.heap.size (vsets (valsOf base) (nowL base vers n (x.rk.take k))) ∧ Own encI 3 1 z5.val.heap.size wr (.slice pk x.rk.length ck) x.rk ∧ Own encI 3 1 z6.val.heap.size wr s8 (nowF base vers n (x.rk.take k))) (fun _ _ _ _ s24 _ => x.rk.length - (intOf s24).toNat)
  case atStart => exact ⟨0, rfl, Nat.zero_le _, ⟨.of hW1, Nat.le_refl _⟩, R0.out, R4.out, R5.out, OK.out, Own.nil _ _ _ _ _⟩
  case round =>
    obtain ⟨k, rfl, hk, ⟨⟨z, rfl⟩, hz6⟩, r0, r6, r7, okk, of⟩ := hrel
    by_cases hlt : k < x.rk.length
    · obtain ⟨key, hkey⟩ := getElem?_some_of_lt hlt
      obtain ⟨kk0, kk1⟩ := hrk.out key (List.mem_of_getElem? hkey)
      obtain ⟨_, _, e9, _, hck⟩ := (okk.sl encI_length).open
      cases e9
      obtain ⟨gk, fk, rfl, hbk, hcc⟩ := hck k key hkey
      have ck0 : z.val.cell? ⟨gk, fk + k, none⟩ = some (.int .i64 key) := by have := hcc 0 _ rfl; simpa using this
      have hvk := valsOf_get Hs.out (n := key.toNat) (by omega)
      rw [show ((key.toNat : Nat) : Int) = key from by omega] at hvk
      obtain ⟨y, hy⟩ := getElem?_some_of_lt (l := vsets (valsOf base) (nowL base vers n (x.rk.take k))) (k := key.toNat) (by rw [vsets_length, valsOf_length]; omega)
      have d0 := r7.cell hy
      have f0 := r7.frozen key.toNat
      have hL7 := r7.lts
      have kread := fun w h => read_any (valsOf base) (atK base key) vers (.slice p2 vers.length c2) key (n : Int) w hvk kk0 kk1 h
      have Hn1 := Lib.hid (nowL_snoc base vers n hkey)
      have Hn2 := Lib.hid (nowF_snoc base vers n hkey)
      have hle2 : (nowF base vers n (x.rk.take k)).length ≤ 2 := by simp [nowF]; omega
      generalize readV (atK base key) vers key n = R at *
      obtain ⟨r1, r2⟩ := R
      dsimp only at *
      have hk2 : key < 32 := by omega
      have k0 : (0 : Int) ≤ (k : Int) := by omega
      have k1 : (k : Int) < x.rk.length := by omega
      have R0 := Lib.hid r0; have R6 := Lib.hid r6; have R7 := Lib.hid r7; have OKK := Lib.hid okk; have OF := Lib.hid of
      clear hck hcc hkey hvk hy r0 r6 r7 okk of
      go_wp2_with (first | (refine wpList_load_row rfl _ _ rfl _ rfl _ _ _ _ R6.out.eq Try.underlying71 rfl (by rw [vA_size, valsOf_length]; exact Try.sVals) ?_) | (go_at_call 77; refine (kread _ (HV1.out.up (by repeat (first | (with_reducible exact Ext.refl _) | (with_reducible refine Ext.up ?_ _) | (with_reducible refine Ext.alloc ?_ _) | (with_reducible refine Ext.drew ?_) | (with_reducible refine Ext.setRow ?_ (by first | exact LeS.le | exact LeS.add _ | (simp; done) | (simp; omega)) _) | (with_reducible refine Ext.setCell ?_ (by first | exact LeS.le | exact LeS.add _ | (simp; done) | (simp; omega)) _))))).mono ?_; rintro e w' ⟨rfl, z7, rfl⟩) | go_loud (at_builtin; refine wpList_pushG fI rfl (.tmp 40) (.tmp 42) rfl encI encI_length W1 (lo := z6.val.heap.size) [r2] (nowF base vers n (x.rk.take k)) rfl (Own.setLo (OF.out.up z7.ext) (by omega)) ((z.ext.trans z7.ext).setCell (by show _ ≤ z4.val.heap.size; omega) _) (by omega) (by rw [setCell_sz]; have := z7.ext.size; omega) rfl (by rfl) (by go_simp) rfl (oneIs _) (by simp; omega) (by simp; omega) ?_; intro v8 z8 o8 g8 b8))
      have hown := Own.setLo (i := key.toNat) (u := .int .i64 r1) (g := z4.val.heap.size) (OF.out.up z7.ext) (by omega)
      have S0 := Lib.hid (rowKept hown (by omega) (((R0.out.up z7.ext).other (p := ⟨z4.val.heap.size, key.toNat, none⟩) (.int .i64 r1) (by show _ ≠ z4.val.heap.size; omega)).eq) g8)
      have S6 := Lib.hid (rowKept hown (by omega) (((R6.out.up z7.ext).other (p := ⟨z4.val.heap.size, key.toNat, none⟩) (.int .i64 r1) Hne.out).eq) g8)
      have S7 := Lib.hid (rowKept hown (by omega) (((R7.out.up z7.ext).set key.toNat r1).eq) g8)
      have SK := Lib.hid (Own.keep (Own.alloc (Own.setLo (i := key.toNat) (u := .int .i64 r1) (g := z4.val.heap.size) (OKK.out.up z7.ext) (by omega))) g8 (Own.apartU OF.out hu.out (Nat.le_refl _)).symm)
      have O8 := Lib.hid o8
      have hs8 := g8.size
      have hs7 := z7.ext.size
      rw [World.size_alloc, setCell_sz] at hs8
      clear o8 g8 b8 hown
      go_wp2_with fail
      go_roundw
      case rel =>
        refine ⟨k + 1, by go_num, by omega, ⟨⟨z8, rfl⟩, by omega⟩, S0.out, S6.out, ?_, SK.out, by rw [Hn2.out]; exact O8.out⟩
        rw [Hn1.out, vsets_append1]
        exact S7.out
      case measure => simp [intOf] <;> omega
    · obtain rfl : k = x.rk.length := by omega
      rw [List.take_length] at r7 of
      have hVl := Lib.hid (show (vsets (valsOf base) (nowL base vers n x.rk)).length = 32 by rw [vsets_length, valsOf_length])
      have R0 := Lib.hid r0; have R7 := Lib.hid r7; have OF := Lib.hid of
      clear r0 r6 r7 okk of
      go_wp2_with (first | (refine wpList_load_row rfl _ _ rfl _ rfl _ _ _ _ R7.out.eq Try.underlying71 rfl (by rw [vA_size, hVl.out]; exact Try.sVals) ?_) | (refine wpList_store_row rfl _ _ _ rfl _ _ rfl rfl _ _ R0.out.eq (by rw [vA_size, hVl.out]; exact Try.sVals) (by rw [vA_size, vA_size, hVl.out, zeros_length]) (vA_one _) ?_))
      refine bodyPost_ret (results_cell_row2 (p := 4) (q := 5) (by kernel_rfl) _ _ (w.heap.size + 1) _ (vA (vsets (valsOf base) (nowL base vers n x.rk))) (0, 0) _ rfl rfl (R0.out.setRow _).eq Try.underlying71 rfl (by rw [vA_size, hVl.out]; exact Try.sVals)) rfl ⟨_, rfl, .of ((hE1.trans z.ext).setRow (by omega) _), ?_⟩
      exact (Own.kept OF.out (grownBy_setRow _ _ _) (OF.out.ne_rb (by omega))).lo (by omega)
end Go.Proofs.Ytnknamddonjnjaa
namespace Go.Proofs.Ytnknamddonjnjaa
open Go Go.RowKit Go.Proofs

def valAt (s : List Ent) (V : List Ver) (n : Int) (r : List Ent) (i : Nat) : Bool := match r[i]? with
  | some x => (readV (atK s x.k) V x.k n).1 == x.v
  | none => true
theorem valAt_eq {s : List Ent} {V : List Ver} {n : Int} {r : List Ent} {i : Nat} {x : Ent} (h : r[i]? = some x) : valAt s V n r i = ((readV (atK s x.k) V x.k n).1 == x.v) := by simp [valAt, h]
theorem nowF_get {s : List Ent} {V : List Ver} {n : Int} {rk : List Int} {i : Nat} {k : Int} (h : rk[i]? = some k) : (nowF s V n rk)[i]? = some (readV (atK s k) V k n).2 := by simp [nowF, h]
theorem nowF_len (s : List Ent) (V : List Ver) (n : Int) (rk : List Int) : (nowF s V n rk).length = rk.length := by simp [nowF]
theorem cur_split {s : List Ent} {V : List Ver} {n : Int} {t : Slt} {rk : List Int} (h1 : t.e.r.length = rk.length) (h2 : t.f.length = rk.length) (h3 : ∀ (i : Nat) y k, t.e.r[i]? = some y → rk[i]? = some k → y.k = k) :
    curOk s V n t = (upTo (valAt s V n t.e.r) t.e.r.length && sameL sameI1 (nowF s V n rk) t.f) := by
  rw [Bool.eq_iff_iff]
  unfold curOk sameL
  rw [Bool.and_eq_true, Bool.and_eq_true, decide_eq_true_eq, nowF_len, upTo_iff, upTo_iff, upTo_iff]
  constructor
  · intro h
    refine ⟨fun i hi => ?_, h2.symm, fun i hi => ?_⟩
    · obtain ⟨y, hy⟩ := getElem?_some_of_lt hi
      obtain ⟨q, hq⟩ := getElem?_some_of_lt (l := t.f) (k := i) (by omega)
      have := h i hi
      rw [curAt_eq hy hq, Bool.and_eq_true] at this
      rw [valAt_eq hy]; exact this.1
    · obtain ⟨y, hy⟩ := getElem?_some_of_lt (l := t.e.r) (k := i) (by omega)
      obtain ⟨q, hq⟩ := getElem?_some_of_lt (l := t.f) (k := i) (by omega)
      obtain ⟨k, hk⟩ := getElem?_some_of_lt (l := rk) (k := i) (by omega)
      have := h i (by omega)
      rw [curAt_eq hy hq, Bool.and_eq_true, h3 i y k hy hk] at this
      rw [sameAt_eq (nowF_get hk) hq]; exact this.2
  · rintro ⟨ha, _, hb⟩ i hi
    obtain ⟨y, hy⟩ := getElem?_some_of_lt hi
    obtain ⟨q, hq⟩ := getElem?_some_of_lt (l := t.f) (k := i) (by omega)
    obtain ⟨k, hk⟩ := getElem?_some_of_lt (l := rk) (k := i) (by omega)
    have g1 := ha i hi
    have g2 := hb i (by omega)
    rw [valAt_eq hy] at g1
    rw [sameAt_eq (nowF_get hk) hq] at g2
    rw [curAt_eq hy hq, g1, Bool.true_and, h3 i y k hy hk]; exact g2
set_option maxRecDepth 100000 in
set_option maxHeartbeats 4000000 in
theorem current_any (e : Eng) (v0 v1 v2 v3 : Value) (n : Nat) (x : Actn) (t : Slt) (w : World) (h : SG w v0 v1 v2 v3 e) (hs : entsOk 1 e.base = true) (hx : e.acts[n]? = some x) (hxo : x.ok = true) (ht : e.sl[n]? = some t)
    (h1 : t.e.r.length = x.rk.length) (h2 : t.f.length = x.rk.length) (h3 : ∀ (i : Nat) y k, t.e.r[i]? = some y → x.rk[i]? = some k → y.k = k) :
    Calls Try.prog 19 #[.agg #[v0, v1, v2, v3], .int .i64 n] w fun ed w' => ed = .returned (.bool (curOk e.base e.vers n t)) ∧ Up w w' := by
  have HG := Lib.hid h
  have HC := Lib.hid (cur_split (s := e.base) (V := e.vers) (n := (n : Int)) h1 h2 h3)
  obtain ⟨p0, c0, rfl, _, _⟩ := h.base.openc
  obtain ⟨p1, c1, rfl, _, _⟩ := h.acts.openc
  obtain ⟨p2, c2, rfl, _, _⟩ := h.vers.openc
  obtain ⟨p3, c3, rfl, _, hcs⟩ := h.sl.open
  obtain ⟨b, off, q0, d0, q1, d1, q2, d2, rfl, hb, ⟨e0, e1, e2, e3, e4, e5⟩, sf, sr, sw⟩ := hcs n t ht
  have know := fun w (h : SG w (.slice p0 e.base.length c0) (.slice p1 e.acts.length c1) (.slice p2 e.vers.length c2) (.slice (some ⟨b, off, none⟩) e.sl.length c3) e) => now_any e _ _ _ _ n x w h hs hx hxo
  have hn0 : (0 : Int) ≤ (n : Int) := by omega
  have hn1 : (n : Int) < e.sl.length := by have := (List.getElem?_eq_some_iff.1 ht).1; omega
  have Hs := Lib.hid hs
  have hkeys := Lib.hid (show ∀ (i : Nat) y, t.e.r[i]? = some y → y.k ∈ x.rk ∧ 0 ≤ y.k ∧ y.k ≤ 31 by
    intro i y hy
    obtain ⟨k, hk⟩ := getElem?_some_of_lt (l := x.rk) (k := i) (by have := (List.getElem?_eq_some_iff.1 hy).1; omega)
    rw [h3 i y k hy hk]
    have hm := List.mem_of_getElem? hk
    exact ⟨hm, Actn.rk_in hxo k hm⟩)
  obtain ⟨_, _, e9, _, hcr⟩ := sr.open
  cases e9
  have HCR := Lib.hid hcr; have HSF := Lib.hid sf
  have hVl := Lib.hid (show (vsets (valsOf e.base) (nowL e.base e.vers n x.rk)).length = 32 by rw [vsets_length, valsOf_length])
  have hVg := Lib.hid (show ∀ k ∈ x.rk, 0 ≤ k ∧ k ≤ 31 → (vsets (valsOf e.base) (nowL e.base e.vers n x.rk))[k.toNat]? = some (readV (atK e.base k) e.vers k n).1 by
    intro k hk hkr
    have := vsets_fun (fun k => (readV (atK e.base k) e.vers k n).1) x.rk (valsOf e.base) k.toNat (fun k hk => (Actn.rk_in hxo k hk).1) (by rw [valsOf_length]; omega)
    rw [show ((k.toNat : Nat) : Int) = k from by omega, if_pos hk] at this
    exact this)
  have hrl : t.e.r.length ≤ 2 := by rw [h1]; exact Actn.rk_le x
  have keq := fun v w h h' => eqInts_any (nowF e.base e.vers n x.rk) t.f v (.slice q0 t.f.length d0) w h h'
  rw [HC.out]
  clear h hs hx hxo ht h1 h2 h3 hcs sf sr sw hcr HC
  generalize vsets (valsOf e.base) (nowL e.base e.vers n x.rk) = V at *
  generalize nowF e.base e.vers n x.rk = F at *
  generalize sameL sameI1 F t.f = bF at *
  have tok1 : True := trivial
  go_enter Try.func19, Try.ntmps19
  go_wp2_with (first | ((go_at_call 47; refine (know _ (HG.out.up (by repeat (first | (with_reducible exact Ext.refl _) | (with_reducible refine Ext.up ?_ _) | (with_reducible refine Ext.alloc ?_ _) | (with_reducible refine Ext.drew ?_) | (with_reducible refine Ext.setRow ?_ (by first | exact LeS.le | exact LeS.add _ | (simp; done) | (simp; omega)) _) | (with_reducible refine Ext.setCell ?_ (by first | exact LeS.le | exact LeS.add _ | (simp; done) | (simp; omega)) _))))).mono ?_; rintro e w' ⟨vf, rfl, ⟨z3, rfl⟩, of⟩); obtain ⟨pf, cf, rfl, _, _⟩ := (of.sl encI_length).openc) | (have _t := tok1; refine wpList_store_new rfl _ _ _ rfl rfl rfl rfl (by rw [hVl.out]; exact Try.sVals) (by rw [hVl.out]; rfl) ?_; intro z4 r4; clear _t tok1))
  have OF := Lib.hid (of.sl encI_length); have R4 := Lib.hid r4
  clear of r4 know
  go_loopw [8, 23] (fun _ s23 wr => ∃ (k : Nat), s23 = .int .i64 k ∧ k ≤ t.e.r.length ∧ Up z4.val wr ∧ upTo (valAt e.base e.vers n t.e.r) k = true) (fun _ s23 _ => t.e.r.length - (intOf s23).toNat)
  case atStart => exact ⟨0, rfl, Nat.zero_le _, (.of (by repeat (first | (with_reducible exact Ext.refl _) | (with_reducible refine Ext.up ?_ _) | (with_reducible refine Ext.alloc ?_ _) | (with_reducible refine Ext.drew ?_) | (with_reducible refine Ext.setRow ?_ (by first | exact LeS.le | exact LeS.add _ | (simp; done) | (simp; omega)) _) | (with_reducible refine Ext.setCell ?_ (by first | exact LeS.le | exact LeS.add _ | (simp; done) | (simp; omega)) _)))), rfl⟩
  case round =>
    obtain ⟨k, rfl, hk, ⟨z, rfl⟩, hall⟩ := hrel
    have HALL := Lib.hid hall; clear hall
    by_cases hlt : k < t.e.r.length
    · obtain ⟨y, hy⟩ := getElem?_some_of_lt hlt
      obtain ⟨hm, k0, k31⟩ := hkeys.out k y hy
      obtain ⟨g, fo, rfl, hbg, hcc⟩ := HCR.out k y hy
      have y0 : w.cell? ⟨g, fo + k * 2, none⟩ = some (.int .i64 y.k) := hcc 0 _ rfl
      have y1 : w.cell? ⟨g, fo + k * 2 + 1, none⟩ = some (.int .i64 y.v) := hcc 1 _ rfl
      have dv := R4.out.cell (hVg.out y.k hm ⟨k0, k31⟩)
      have hL4 := R4.out.lts
      have Hat := Lib.hid (valAt_eq (s := e.base) (V := e.vers) (n := (n : Int)) hy)
      generalize (readV (atK e.base y.k) e.vers y.k n).1 = c at *
      have k2 : y.k < 32 := by omega
      have kk0 : (0 : Int) ≤ (k : Int) := by omega
      have kk1 : (k : Int) < t.e.r.length := by omega
      clear hcc hy hm
      rcases hcv : (c == y.v) with _ | _
      · have hcv' : (c != y.v) = true := by rw [bne, hcv]; rfl
        have Hf := Lib.hid (upTo_false (f := valAt e.base e.vers n t.e.r) hlt (by rw [Hat.out, hcv]))
        go_wp2_with fail
        (refine wp_region_up (by kernel_rfl) (by kernel_rfl) ?_; (repeat (go_big_quiet_step (fail))); refine wpQuiet_nil ?_; intro _ hw'; obtain ⟨zq, hw''⟩ := hw'; subst hw'')
        go_wp2_with fail
        go_ret
        exact ⟨by rw [Hf.out]; rfl, (.of (by repeat (first | (with_reducible exact Ext.refl _) | (with_reducible refine Ext.up ?_ _) | (with_reducible refine Ext.alloc ?_ _) | (with_reducible refine Ext.drew ?_) | (with_reducible refine Ext.setRow ?_ (by first | exact LeS.le | exact LeS.add _ | (simp; done) | (simp; omega)) _) | (with_reducible refine Ext.setCell ?_ (by first | exact LeS.le | exact LeS.add _ | (simp; done) | (simp; omega)) _))))⟩
      · have hcv' : (c != y.v) = false := by rw [bne, hcv]; rfl
        go_wp2_with fail
        (refine wp_region_up (by kernel_rfl) (by kernel_rfl) ?_; (repeat (go_big_quiet_step (fail))); refine wpQuiet_nil ?_; intro _ hw'; obtain ⟨zq, hw''⟩ := hw'; subst hw'')
        go_wp2_with fail
        go_roundw
        case rel => exact ⟨k + 1, by go_num, by omega, (.of (by repeat (first | (with_reducible exact Ext.refl _) | (with_reducible refine Ext.up ?_ _) | (with_reducible refine Ext.alloc ?_ _) | (with_reducible refine Ext.drew ?_) | (with_reducible refine Ext.setRow ?_ (by first | exact LeS.le | exact LeS.add _ | (simp; done) | (simp; omega)) _) | (with_reducible refine Ext.setCell ?_ (by first | exact LeS.le | exact LeS.add _ | (simp; done) | (simp; omega)) _)))), upTo_succ HALL.out (by rw [Hat.out, hcv])⟩
        case measure => simp [intOf] <;> omega
    · obtain rfl : k = t.e.r.length := by omega
      go_wp2_with fail
      refine (keq _ _ (OF.out.up (by repeat (first | (with_reducible exact Ext.refl _) | (with_reducible refine Ext.up ?_ _) | (with_reducible refine Ext.alloc ?_ _) | (with_reducible refine Ext.drew ?_) | (with_reducible refine Ext.setRow ?_ (by first | exact LeS.le | exact LeS.add _ | (simp; done) | (simp; omega)) _) | (with_reducible refine Ext.setCell ?_ (by first | exact LeS.le | exact LeS.add _ | (simp; done) | (simp; omega)) _)))) (HSF.out.up (by repeat (first | (with_reducible exact Ext.refl _) | (with_reducible refine Ext.up ?_ _) | (with_reducible refine Ext.alloc ?_ _) | (with_reducible refine Ext.drew ?_) | (with_reducible refine Ext.setRow ?_ (by first | exact LeS.le | exact LeS.add _ | (simp; done) | (simp; omega)) _) | (with_reducible refine Ext.setCell ?_ (by first | exact LeS.le | exact LeS.add _ | (simp; done) | (simp; omega)) _))))).mono ?_; rintro ed w' ⟨rfl, ⟨z9, rfl⟩⟩
      go_wp2_with fail
      go_ret
      exact ⟨by rw [HALL.out]; rfl, (.of (by repeat (first | (with_reducible exact Ext.refl _) | (with_reducible refine Ext.up ?_ _) | (with_reducible refine Ext.alloc ?_ _) | (with_reducible refine Ext.drew ?_) | (with_reducible refine Ext.setRow ?_ (by first | exact LeS.le | exact LeS.add _ | (simp; done) | (simp; omega)) _) | (with_reducible refine Ext.setCell ?_ (by first | exact LeS.le | exact LeS.add _ | (simp; done) | (simp; omega)) _))))⟩
end Go.Proofs.Ytnknamddonjnjaa
