/- Walks: trees of blocks: copies, comparisons, marks. Plain ground: trees of the call's own that grow by a block and by a number. Plain ground: the tree in a box of its own while it grows, beside the reader. -/
import Derived.Test.YtknohbdhbjppjaaGBRTop29
import Derived.Test.YtknohbdhbjppjaaGBRTop18
set_option linter.unusedSimpArgs false
set_option linter.unusedVariables false
namespace Go.Proofs.Ytknohbdhbjppjaa
open Go Go.RowKit Go.Proofs

set_option maxHeartbeats 2000000 in
theorem eqBlockS_same (cs : List BL) (v v' : Value) (w : World) (h : SB w v cs) (h' : SB w v' cs) :
    Calls Try.prog 80 #[v, v'] w fun e w' => e = .returned (.bool true) ∧ Up w w' := by
  obtain ⟨a, cap, rfl, hlen, hcap, hc⟩ := h.open
  obtain ⟨a', cap', rfl, _, hcap', hc'⟩ := h'.open
  clear h h' hcap hcap'
  go_enter Try.func80, Try.ntmps80
  go_wp2_with fail
  go_loopw [5] (fun s5 wr => ∃ (k : Nat), s5 = .int .i64 k ∧ k ≤ cs.length ∧ Up w wr) (fun s5 _ => cs.length - (intOf s5).toNat)
  case atStart => exact ⟨0, rfl, Nat.zero_le _, .of (Ext.refl _)⟩
  case round =>
    obtain ⟨k, rfl, hk, ⟨z, rfl⟩⟩ := hrel
    by_cases hlt : k < cs.length
    · obtain ⟨x, hxk⟩ := getElem?_some_of_lt hlt
      obtain ⟨b, off, p, c, rfl, hb, c0, c1, c2, c3, c4, c5, hx⟩ := hc k x hxk
      obtain ⟨b', off', p', c', rfl, hb', d0, d1, d2, d3, d4, d5, hx'⟩ := hc' k x hxk
      have k0 : (0 : Int) ≤ (k : Int) := by omega
      have Hx := Lib.hid hx; have Hx' := Lib.hid hx'
      clear hc hc' hxk hx hx'
      go_wp2_with fail
      (refine wp_region_up (by kernel_rfl) (by kernel_rfl) ?_; (repeat (go_big_quiet_step ((go_at_call 18; exact Calls.up (eqBlock_same x.1 x.2 _ _ _ (Hx.out.up (by repeat (first | exact Ext.refl _ | refine Ext.up ?_ _ | refine Ext.alloc ?_ _ | refine Ext.drew ?_ | refine Ext.setRow ?_ (by first | (dsimp only; omega) | exact LeS.le | exact LeS.add _ | (simp; done) | (simp; omega)) _ | refine Ext.setCell ?_ (by first | (dsimp only; omega) | exact LeS.le | exact LeS.add _ | (simp; done) | (simp; omega)) _))) (Hx'.out.up (by repeat (first | exact Ext.refl _ | refine Ext.up ?_ _ | refine Ext.alloc ?_ _ | refine Ext.drew ?_ | refine Ext.setRow ?_ (by first | (dsimp only; omega) | exact LeS.le | exact LeS.add _ | (simp; done) | (simp; omega)) _ | refine Ext.setCell ?_ (by first | (dsimp only; omega) | exact LeS.le | exact LeS.add _ | (simp; done) | (simp; omega)) _)))))))); refine wpQuiet_nil ?_; intro _ hw'; obtain ⟨zq, hw''⟩ := hw'; subst hw'')
      go_wp2_with fail
      go_roundw
      case rel => exact ⟨k + 1, by go_num, by omega, (.of (by repeat (first | exact Ext.refl _ | refine Ext.up ?_ _ | refine Ext.alloc ?_ _ | refine Ext.drew ?_ | refine Ext.setRow ?_ (by first | (dsimp only; omega) | exact LeS.le | exact LeS.add _ | (simp; done) | (simp; omega)) _ | refine Ext.setCell ?_ (by first | (dsimp only; omega) | exact LeS.le | exact LeS.add _ | (simp; done) | (simp; omega)) _)))⟩
      case measure => simp [intOf]; omega
    · go_wp2_with fail
      go_ret
      exact ⟨rfl, z, rfl⟩
theorem eqBlockTree_same (t : Tree) (v0 v1 v2 u0 u1 u2 : Value) (w : World) (h : ST w v0 v1 v2 t) (h' : ST w u0 u1 u2 t) :
    Calls Try.prog 25 #[.agg #[v0, v1, v2], .agg #[u0, u1, u2]] w fun e w' => e = .returned (.bool true) ∧ Up w w' := by
  obtain ⟨h0, h1, h2⟩ := h
  obtain ⟨p0, c0, rfl, _, _⟩ := h0.openc
  obtain ⟨p1, c1, rfl, _, _⟩ := h1.openc
  obtain ⟨p2, c2, rfl, _, _⟩ := h2.openc
  obtain ⟨g0, g1, g2⟩ := h'
  obtain ⟨q0, d0, rfl, _, _⟩ := g0.openc
  obtain ⟨q1, d1, rfl, _, _⟩ := g1.openc
  obtain ⟨q2, d2, rfl, _, _⟩ := g2.openc
  have H0 := Lib.hid h0; have H1 := Lib.hid h1; have H2 := Lib.hid h2; clear h0 h1 h2
  have G0 := Lib.hid g0; have G1 := Lib.hid g1; have G2 := Lib.hid g2; clear g0 g1 g2
  go_enter Try.func25, Try.ntmps25
  go_wp2_with (first | (go_at_call 19; refine (eqEntryS_same t.base _ _ _ (H0.out.up (by repeat (first | exact Ext.refl _ | refine Ext.up ?_ _ | refine Ext.alloc ?_ _ | refine Ext.drew ?_ | refine Ext.setRow ?_ (by first | (dsimp only; omega) | exact LeS.le | exact LeS.add _ | (simp; done) | (simp; omega)) _ | refine Ext.setCell ?_ (by first | (dsimp only; omega) | exact LeS.le | exact LeS.add _ | (simp; done) | (simp; omega)) _))) (G0.out.up (by repeat (first | exact Ext.refl _ | refine Ext.up ?_ _ | refine Ext.alloc ?_ _ | refine Ext.drew ?_ | refine Ext.setRow ?_ (by first | (dsimp only; omega) | exact LeS.le | exact LeS.add _ | (simp; done) | (simp; omega)) _ | refine Ext.setCell ?_ (by first | (dsimp only; omega) | exact LeS.le | exact LeS.add _ | (simp; done) | (simp; omega)) _)))).mono ?_; rintro e w' ⟨rfl, z, rfl⟩) | (go_at_call 80; refine (eqBlockS_same t.bs _ _ _ (H1.out.up (by repeat (first | exact Ext.refl _ | refine Ext.up ?_ _ | refine Ext.alloc ?_ _ | refine Ext.drew ?_ | refine Ext.setRow ?_ (by first | (dsimp only; omega) | exact LeS.le | exact LeS.add _ | (simp; done) | (simp; omega)) _ | refine Ext.setCell ?_ (by first | (dsimp only; omega) | exact LeS.le | exact LeS.add _ | (simp; done) | (simp; omega)) _))) (G1.out.up (by repeat (first | exact Ext.refl _ | refine Ext.up ?_ _ | refine Ext.alloc ?_ _ | refine Ext.drew ?_ | refine Ext.setRow ?_ (by first | (dsimp only; omega) | exact LeS.le | exact LeS.add _ | (simp; done) | (simp; omega)) _ | refine Ext.setCell ?_ (by first | (dsimp only; omega) | exact LeS.le | exact LeS.add _ | (simp; done) | (simp; omega)) _)))).mono ?_; rintro e w' ⟨rfl, z2, rfl⟩) | (go_at_call 42; refine (eqIntS_same t.pr _ _ _ (H2.out.up (by repeat (first | exact Ext.refl _ | refine Ext.up ?_ _ | refine Ext.alloc ?_ _ | refine Ext.drew ?_ | refine Ext.setRow ?_ (by first | (dsimp only; omega) | exact LeS.le | exact LeS.add _ | (simp; done) | (simp; omega)) _ | refine Ext.setCell ?_ (by first | (dsimp only; omega) | exact LeS.le | exact LeS.add _ | (simp; done) | (simp; omega)) _))) (G2.out.up (by repeat (first | exact Ext.refl _ | refine Ext.up ?_ _ | refine Ext.alloc ?_ _ | refine Ext.drew ?_ | refine Ext.setRow ?_ (by first | (dsimp only; omega) | exact LeS.le | exact LeS.add _ | (simp; done) | (simp; omega)) _ | refine Ext.setCell ?_ (by first | (dsimp only; omega) | exact LeS.le | exact LeS.add _ | (simp; done) | (simp; omega)) _)))).mono ?_; rintro e w' ⟨rfl, z3, rfl⟩))
  go_ret
  exact ⟨rfl, (.of (by repeat (first | exact Ext.refl _ | refine Ext.up ?_ _ | refine Ext.alloc ?_ _ | refine Ext.drew ?_ | refine Ext.setRow ?_ (by first | (dsimp only; omega) | exact LeS.le | exact LeS.add _ | (simp; done) | (simp; omega)) _ | refine Ext.setCell ?_ (by first | (dsimp only; omega) | exact LeS.le | exact LeS.add _ | (simp; done) | (simp; omega)) _)))⟩
set_option maxHeartbeats 2000000 in
theorem toBlockTree_any (t : Tree) (v0 v1 v2 : Value) (w : World) (h : ST w v0 v1 v2 t) (hn : t.base.length ≤ 1048576) (hb : t.bs.length ≤ 1048576) (ha : totA t.bs ≤ 1048576) (hp : t.pr.length ≤ 1048576) :
    Calls Try.prog 50 #[.agg #[v0, v1, v2]] w fun e w' => ∃ u0 u1 u2 bs, e = .returned (.agg #[u0, u1, u2]) ∧ Up w w' ∧ bs.map TB.core = t.bs ∧ OT 97 26 86 3 w.heap.size w'.heap.size w' u0 u1 u2 t.base bs t.pr := by
  obtain ⟨h0, h1, h2⟩ := h
  obtain ⟨p0, c0, rfl, _, _⟩ := h0.openc
  obtain ⟨p1, c1, rfl, _, _⟩ := h1.openc
  obtain ⟨p2, c2, rfl, _, _⟩ := h2.openc
  have H0 := Lib.hid h0; have H1 := Lib.hid h1; have H2 := Lib.hid h2; clear h0 h1 h2
  go_enter Try.func50, Try.ntmps50
  go_wp2_with fail
  refine (toEntryS_any t.base _ _ (H0.out.up (by repeat (first | exact Ext.refl _ | refine Ext.up ?_ _ | refine Ext.alloc ?_ _ | refine Ext.drew ?_ | refine Ext.setRow ?_ (by first | (dsimp only; omega) | exact LeS.le | exact LeS.add _ | (simp; done) | (simp; omega)) _ | refine Ext.setCell ?_ (by first | (dsimp only; omega) | exact LeS.le | exact LeS.add _ | (simp; done) | (simp; omega)) _))) hn).mono ?_; rintro e w' ⟨y0, rfl, ⟨z0, rfl⟩, o0⟩
  obtain ⟨q0, d0, rfl, _, _⟩ := (o0.sl Ent.enc_length).openc
  have O0 := Lib.hid o0; clear o0
  go_wp2_with fail
  refine (toBlockS_any t.bs _ _ (H1.out.up (by repeat (first | exact Ext.refl _ | refine Ext.up ?_ _ | refine Ext.alloc ?_ _ | refine Ext.drew ?_ | refine Ext.setRow ?_ (by first | (dsimp only; omega) | exact LeS.le | exact LeS.add _ | (simp; done) | (simp; omega)) _ | refine Ext.setCell ?_ (by first | (dsimp only; omega) | exact LeS.le | exact LeS.add _ | (simp; done) | (simp; omega)) _))) hb ha).mono ?_; rintro e w' ⟨y1, bs, rfl, ⟨z1, rfl⟩, hm, o1⟩
  obtain ⟨q1, d1, rfl, _, _⟩ := (o1.1.sl TB.enc_length).openc
  have O1 := Lib.hid o1; clear o1
  go_wp2_with fail
  refine (toIntS_any t.pr _ _ (H2.out.up (by repeat (first | exact Ext.refl _ | refine Ext.up ?_ _ | refine Ext.alloc ?_ _ | refine Ext.drew ?_ | refine Ext.setRow ?_ (by first | (dsimp only; omega) | exact LeS.le | exact LeS.add _ | (simp; done) | (simp; omega)) _ | refine Ext.setCell ?_ (by first | (dsimp only; omega) | exact LeS.le | exact LeS.add _ | (simp; done) | (simp; omega)) _))) hp).mono ?_; rintro e w' ⟨y2, rfl, ⟨z2, rfl⟩, o2⟩
  obtain ⟨q2, d2, rfl, _, _⟩ := (o2.sl encI_length).openc
  have O2 := Lib.hid o2; clear o2
  go_wp2_with fail
  refine bodyPost_ret (v := .agg #[.slice q0 t.base.length d0, .slice q1 bs.length d1, .slice q2 t.pr.length d2]) (by simp [results, Try.results50, go_sem]) rfl ?_
  have T : OT 97 26 86 3 (w.heap.size + 1 + 1 + 1) z2.val.heap.size z2.val (.slice q0 t.base.length d0) (.slice q1 bs.length d1) (.slice q2 t.pr.length d2) t.base bs t.pr :=
    ⟨z0.val.heap.size, z1.val.heap.size, by have := z0.ext.size; simpa using this, by have := z1.ext.size; rw [setCell_size] at this; exact this, by have := z2.ext.size; rw [setCell_size] at this; exact this,
      Own.lo ((((O0.out.setOld ⟨w.heap.size + 1 + 1, 0, none⟩ _ (by simp)).up z1.ext).setOld ⟨w.heap.size + 1 + 1, 1, none⟩ _ (by simp)).up z2.ext) (by simp), O0.out.under,
      OB.lo ((O1.out.setOld ⟨w.heap.size + 1 + 1, 1, none⟩ _ (by rw [setCell_size]; have := z0.ext.size; simp at this; show w.heap.size + 1 + 1 < _; omega)).up z2.ext) (by rw [setCell_size]; exact Nat.le_refl _), O1.out.1.under, O1.out.under,
      Own.lo O2.out (by rw [setCell_size]; exact Nat.le_refl _), O2.out.under⟩
  refine ⟨_, _, _, bs, rfl, (.of (by repeat (first | (with_reducible exact Ext.refl _) | (with_reducible refine Ext.up ?_ _) | (with_reducible refine Ext.alloc ?_ _) | (with_reducible refine Ext.drew ?_) | (with_reducible refine Ext.setRow ?_ (by first | exact LeS.le | exact LeS.add _ | (simp; done) | (simp; omega)) _) | (with_reducible refine Ext.setCell ?_ (by first | exact LeS.le | exact LeS.add _ | (simp; done) | (simp; omega)) _)))), hm, OT.mono (OT.setOld (OT.setOld (OT.setOld (OT.setOld T _ _ (by simp)) _ _ (by simp)) _ _ (by simp)) _ _ (by simp)) (by omega) (by simp [setCell_size])⟩
theorem Own.setApart {α : Type} {enc : α → List Value} {e sz lo : Nat} {w : World} {v : Value} {l : List α} (h : Own enc e sz lo w v l) {g : Nat} (i : Nat) (u : Value) (hap : v.ownBlock = none ∨ v.ownBlock ≠ some g) : Own enc e sz lo (w.setCell ⟨g, i, none⟩ u) v l :=
  h.kept (grownBy_set w ⟨g, i, none⟩ u) hap
theorem Keep.setCell {hi : Nat} {w w' : World} (h : Keep hi w w') {g : Nat} (i : Nat) (u : Value) (hg : g < hi) : Keep hi w (w'.setCell ⟨g, i, none⟩ u) :=
  h.trans ⟨(grownBy_set w' ⟨g, i, none⟩ u).size, fun k hk hs => (grownBy_set w' ⟨g, i, none⟩ u).block k hs (fun e => by
    have e' : k = g := by simpa using e
    omega)⟩
set_option maxHeartbeats 4000000 in
theorem markBlockS_weak (hi lo : Nat) (w0 w : World) (bs : List TB) (v : Value) (m : Int) (h : OB 26 86 lo w v bs) (hu : Under hi v) (hus : ∀ x ∈ bs, Under hi x.v) (hE : Ext w0 w) (hlo : w0.heap.size ≤ lo) (hm0 : 0 ≤ m) (hb : bs.length ≤ 1048576) (hm1 : m + 5 * bs.length + 4 * totA (bs.map TB.core) ≤ 900000000) :
    Calls Try.prog 81 #[v, .int .i64 m] w fun e w' => e = .returned (.int .i64 (m + 5 * bs.length + 4 * totA (bs.map TB.core))) ∧ Ext w0 w' ∧ Keep hi w w' := by
  obtain ⟨hrow, hdeep, hpw⟩ := h
  have hr0 : w.ownsRow lo 26 6 v bs.length (bs.flatMap TB.enc) := hrow
  rcases hrow.2 with ⟨rfl, hn0⟩ | ⟨g, cap, cur, hv, hlog, _⟩
  · have : bs = [] := List.eq_nil_of_length_eq_zero hn0
    subst this
    go_enter Try.func81, Try.ntmps81
    go_wp2
    refine wp_loop_rounds 1 ?_; rw [rounds_succ]
    go_wp2
    go_ret
    exact ⟨by simp [totA], hE, Keep.refl _ _⟩
  subst hv
  clear hrow
  have hg : g < hi := hu g rfl
  have hgl : w0.heap.size ≤ g := by omega
  go_enter Try.func81, Try.ntmps81
  go_wp2_with fail
  go_loopw [1, 5] (fun s1 s4 wr => ∃ (k : Nat) (mk : Int) (xs : List Value), s4 = .int .i64 k ∧ s1 = .int .i64 mk ∧ mk = m + 5 * k + 4 * totA ((bs.map TB.core).take k) ∧ k ≤ bs.length ∧ Ext w0 wr ∧ Keep hi w wr ∧ wr.ownsRow lo 26 6 (.slice (some ⟨g, 0, none⟩) bs.length cap) bs.length xs ∧ (∀ i x, bs[i]? = some x → xs[i * 6 + 3]? = some x.v) ∧ (∀ x ∈ bs, ∃ l', Own Actn.enc 86 4 lo wr x.v l' ∧ l'.length = x.l.length)) (fun _ s4 _ => bs.length - (intOf s4).toNat)
  case atStart => exact ⟨0, _, _, rfl, rfl, by simp [totA], Nat.zero_le _, hE, Keep.refl _ _, hr0, fun i x hx => flatMap_get TB.enc_length hx (j := 3) rfl, fun x hx => ⟨x.l, (hdeep x hx).1, rfl⟩⟩
  case round =>
    obtain ⟨k, mk, xs, rfl, rfl, hmk, hk, hEr, hK, hown, hptr, hd⟩ := hrel
    by_cases hlt : k < bs.length
    · obtain ⟨x, hxk⟩ := getElem?_some_of_lt hlt
      have hmem := List.mem_of_getElem? hxk
      obtain ⟨l', hl', hll⟩ := hd x hmem
      obtain ⟨pp, cc, hvv, _, _⟩ := (hl'.sl Actn.enc_length).openc
      have hsn := totA_snoc (cs := bs.map TB.core) (k := k) (x := x.core) (by simp [hxk])
      have htk := totA_le (bs.map TB.core) (k + 1)
      have hxx : x.core.2.length = x.l.length := rfl
      have hmk2 : mk + 5 + 4 * (l'.length : Int) ≤ 900000000 := by omega
      have hmk3 : 0 ≤ mk := by omega
      have hmkn : mk + 1 + 1 + 1 + 4 * (l'.length : Int) + 1 + 1 = m + 5 * ((k + 1 : Nat) : Int) + 4 * totA ((bs.map TB.core).take (k + 1)) := by omega
      have hxl : xs.length = bs.length * 6 := hown.1
      have hp3 := hptr k x hxk
      obtain ⟨u0, hu0⟩ := getElem?_some_of_lt (show k * 6 < xs.length by omega)
      obtain ⟨u1, hu1⟩ := getElem?_some_of_lt (show k * 6 + 1 < xs.length by omega)
      obtain ⟨u2, hu2⟩ := getElem?_some_of_lt (show k * 6 + 2 < xs.length by omega)
      have d0 : wr.cell? ⟨g, k * 6, none⟩ = some u0 := (hown.cellAt _ (by omega)).trans hu0
      have f0 := hown.frozenAt (k * 6)
      have d1 : wr.cell? ⟨g, k * 6 + 1, none⟩ = some u1 := (hown.cellAt _ (by omega)).trans hu1
      have f1 := hown.frozenAt (k * 6 + 1)
      have d2 : wr.cell? ⟨g, k * 6 + 2, none⟩ = some u2 := (hown.cellAt _ (by omega)).trans hu2
      have f2 := hown.frozenAt (k * 6 + 2)
      have d3 : wr.cell? ⟨g, k * 6 + 3, none⟩ = some x.v := (hown.cellAt _ (by omega)).trans hp3
      have hL : LtS g wr := LtS.of_some d0
      have hapg : x.v.ownBlock = none ∨ x.v.ownBlock ≠ some g := (hdeep x hmem).2
      have hal : ∀ y ∈ bs, y.v.ownBlock = none ∨ y.v.ownBlock ≠ some g := fun y hy => (hdeep y hy).2
      have hux := hus x hmem
      have Hpw := Lib.hid hpw; have Hus := Lib.hid hus; have Hux := Lib.hid hux; have Hxk := Lib.hid hxk; have Hown := Lib.hid hown; have Hxl := Lib.hid hxl; have Hptr := Lib.hid hptr; have Hd := Lib.hid hd; have HK := Lib.hid hK; have HE := Lib.hid hEr; have Hmkn := Lib.hid hmkn; have Hl := Lib.hid hl'; have Hap := Lib.hid hapg; have Hal := Lib.hid hal; have Hdeep := Lib.hid hdeep; have Hmem := Lib.hid hmem; have Hgl := Lib.hid hgl; have Hg := Lib.hid hg; have Hr0 := Lib.hid hr0; have Hll := Lib.hid hll
      have Hp3 := Lib.hid hp3
      have k0 : (0 : Int) ≤ (k : Int) := by omega
      clear hpw hus hux hxk hown hxl hptr hd hK hEr hmkn hl' hapg hal hdeep hmem hgl hg hr0 hp3 hmk hsn htk hxx hu0 hu1 hu2 hll
      rw [hvv] at d3
      go_wp2_with fail
      have hl3 := Own.setApart (Own.setApart (Own.setApart Hl.out (k * 6) (.int .i64 mk) Hap.out) (k * 6 + 1) (.int .i64 (mk + 1)) Hap.out) (k * 6 + 2) (.int .i64 (mk + 1 + 1)) Hap.out
      rw [hvv] at hl3
      refine (markActionS_any lo l' (.slice pp l'.length cc) (mk + 1 + 1 + 1) _ hl3 (by omega) (by omega) (by omega)).mono ?_; rintro e w' ⟨rfl, hg2, om⟩
      have R3 := ownsRow_setAll [.int .i64 mk, .int .i64 (mk + 1), .int .i64 (mk + 1 + 1)] (k * 6) Hown.out
      have hgl3 := fun j hj => (World.ownsRow.lt hl3 j hj).1
      rw [← hvv] at hg2 om hgl3
      have R4 := World.ownsRow.kept R3 hg2 (Apart.symm (v := x.v) (v' := .slice (some ⟨g, 0, none⟩) bs.length cap) Hap.out)
      have hx3 : (setAll xs (k * 6) [.int .i64 mk, .int .i64 (mk + 1), .int .i64 (mk + 1 + 1)]).length = bs.length * 6 := by rw [setAll_length]; exact Hxl.out
      obtain ⟨u4, hu4⟩ := getElem?_some_of_lt (l := setAll xs (k * 6) [.int .i64 mk, .int .i64 (mk + 1), .int .i64 (mk + 1 + 1)]) (k := k * 6 + 4) (by omega)
      obtain ⟨u5, hu5⟩ := getElem?_some_of_lt (l := setAll xs (k * 6) [.int .i64 mk, .int .i64 (mk + 1), .int .i64 (mk + 1 + 1)]) (k := k * 6 + 5) (by omega)
      have d4 : w'.cell? ⟨g, k * 6 + 4, none⟩ = some u4 := (R4.cellAt _ (by omega)).trans hu4
      have f4 := R4.frozenAt (k * 6 + 4)
      have d5 : w'.cell? ⟨g, k * 6 + 5, none⟩ = some u5 := (R4.cellAt _ (by omega)).trans hu5
      have f5 := R4.frozenAt (k * 6 + 5)
      have hL4 : LtS g w' := LtS.of_some d4
      have HE3 := Lib.hid ((((HE.out.setCell (p := ⟨g, k * 6, none⟩) Hgl.out (.int .i64 mk)).setCell (p := ⟨g, k * 6 + 1, none⟩) Hgl.out (.int .i64 (mk + 1))).setCell (p := ⟨g, k * 6 + 2, none⟩) Hgl.out (.int .i64 (mk + 1 + 1))).grown hg2 fun j hj => Nat.le_trans hlo (hgl3 j hj))
      have HK3 := Lib.hid ((((HK.out.setCell (k * 6) (.int .i64 mk) Hg.out).setCell (k * 6 + 1) (.int .i64 (mk + 1)) Hg.out).setCell (k * 6 + 2) (.int .i64 (mk + 1 + 1)) Hg.out).trans (Keep.grown hg2 Hux.out))
      have HR4 := Lib.hid R4; have HX3 := Lib.hid hx3; have Om := Lib.hid om; have Hg2 := Lib.hid hg2
      clear R3 R4 hx3 om hg2 hgl3 hu4 hu5 hl3
      go_wp2_with fail
      go_roundw
      case rel =>
        refine ⟨k + 1, _, setAll (setAll xs (k * 6) [.int .i64 mk, .int .i64 (mk + 1), .int .i64 (mk + 1 + 1)]) (k * 6 + 4) [.int .i64 (mk + 1 + 1 + 1 + 4 * l'.length), .int .i64 (mk + 1 + 1 + 1 + 4 * l'.length + 1)], by go_num, rfl, Hmkn.out, by omega, (HE3.out.setCell Hgl.out _).setCell Hgl.out _, (HK3.out.setCell _ _ Hg.out).setCell _ _ Hg.out, ownsRow_setAll [.int .i64 (mk + 1 + 1 + 1 + 4 * l'.length), .int .i64 (mk + 1 + 1 + 1 + 4 * l'.length + 1)] (k * 6 + 4) HR4.out, ?_, ?_⟩
        · intro i y hy
          have hib : i < bs.length := (List.getElem?_eq_some_iff.1 hy).1
          have hxl := Hxl.out
          rw [setAll_get _ _ _ _ (by rw [setAll_length]; simp; omega), if_neg (by simp; omega), setAll_get _ _ _ _ (by simp; omega), if_neg (by simp; omega)]
          exact Hptr.out i y hy
        · intro y hy
          obtain ⟨j, hj⟩ := List.getElem?_of_mem hy
          by_cases hjk : j = k
          · subst hjk
            have e : y = x := by have h1 := Hxk.out; rw [hj] at h1; cases h1; rfl
            subst e
            refine ⟨_, Own.setApart (Own.setApart Om.out _ _ Hap.out) _ _ Hap.out, by rw [marksActn_length]; exact Hll.out⟩
          · obtain ⟨l2, ho2, hl2⟩ := Hd.out y hy
            have hya := Hal.out y hy
            have hyx : Apart y.v x.v := by
              have hp := Hpw.out
              rw [List.pairwise_iff_getElem] at hp
              obtain ⟨j1, j2⟩ := List.getElem?_eq_some_iff.1 hj
              obtain ⟨k1, k2⟩ := List.getElem?_eq_some_iff.1 Hxk.out
              rcases Nat.lt_or_gt_of_ne hjk with h3 | h3
              · have := hp j k j1 k1 h3; rw [j2, k2] at this; exact this
              · have := hp k j k1 j1 h3; rw [j2, k2] at this; exact this.symm
            exact ⟨l2, Own.setApart (Own.setApart (Own.keep (Own.setApart (Own.setApart (Own.setApart ho2 _ _ hya) _ _ hya) _ _ hya) Hg2.out hyx) _ _ hya) _ _ hya, hl2⟩
      case measure => simp [intOf]; omega
    · go_wp2_with fail
      go_ret
      obtain rfl : k = bs.length := by omega
      refine ⟨by rw [hmk, List.take_of_length_le (by simp)]; rfl, hEr, hK⟩
set_option maxHeartbeats 1000000 in
theorem markBlockTree_weak (lo hi : Nat) (w0 w : World) (base : List Ent) (bs : List TB) (pr : List Int) (v0 v1 v2 : Value) (m : Int) (h : OT 97 26 86 3 lo hi w v0 v1 v2 base bs pr) (hE : Ext w0 w) (hlo : w0.heap.size ≤ lo) (hm0 : 0 ≤ m) (hm1 : m ≤ 1000) (hb : base.length ≤ 1048576) (hs : bs.length ≤ 1048576) (ha : totA (bs.map TB.core) ≤ 1048576) (hp : pr.length ≤ 1048576) (hhi : hi ≤ w.heap.size) :
    Calls Try.prog 26 #[.agg #[v0, v1, v2], .int .i64 m] w fun e w' => ∃ n : Int, e = .returned (.int .i64 n) ∧ 0 ≤ n ∧ Ext w0 w' ∧ Keep hi w w' := by
  obtain ⟨s1, s2, h1, h2, h3, o0, u0, o1, u1, ux, o2, u2⟩ := h
  obtain ⟨p0, c0, rfl, _, _⟩ := (o0.sl Ent.enc_length).openc
  obtain ⟨p1, c1, rfl, _, _⟩ := (o1.1.sl TB.enc_length).openc
  obtain ⟨p2, c2, rfl, _, _⟩ := (o2.sl encI_length).openc
  have a10 := Lib.hid (o1.1.apartU u0 (Nat.le_refl _))
  have a1x := Lib.hid (fun x (hx : x ∈ bs) => (o1.2.1 x hx).1.apartU u0 (Nat.le_refl _))
  have a20 := Lib.hid (o2.apartU u0 h2)
  have O0 := Lib.hid o0; have O1 := Lib.hid o1; have O2 := Lib.hid o2; have U0 := Lib.hid u0; have U1 := Lib.hid u1; have U2 := Lib.hid u2; have UX := Lib.hid ux; have HE := Lib.hid hE
  clear o0 o1 o2 u0 u1 u2 ux hE
  go_enter Try.func26, Try.ntmps26
  go_wp2_with fail
  refine (markEntryS_any lo base _ m _ (O0.out.up (by repeat (first | exact Ext.refl _ | refine Ext.up ?_ _ | refine Ext.alloc ?_ _ | refine Ext.drew ?_ | refine Ext.setRow ?_ (by first | (dsimp only; omega) | exact LeS.le | exact LeS.add _ | (simp; done) | (simp; omega)) _ | refine Ext.setCell ?_ (by first | (dsimp only; omega) | exact LeS.le | exact LeS.add _ | (simp; done) | (simp; omega)) _))) (by omega) (by omega) (by omega)).mono ?_; rintro e w1 ⟨rfl, hg1, _⟩
  have E1 := Lib.hid ((HE.out.trans ((Ext.refl w).alloc _)).grown hg1 fun j hj => Nat.le_trans hlo (World.ownsRow.lt O0.out j hj).1)
  have K1 := Lib.hid (Keep.trans (⟨by simp, fun k _ hk => by rw [((Ext.refl w).alloc _).block hk]⟩ : Keep hi w _) (Keep.grown hg1 (U0.out.le (Nat.le_trans h2 h3))))
  have B1 := Lib.hid (show OB 26 86 s1 w1 _ bs from ⟨Own.keep ((O1.out.1).up ((Ext.refl _).alloc _)) hg1 a10.out, fun x hx => ⟨Own.keep ((O1.out.2.1 x hx).1.up ((Ext.refl _).alloc _)) hg1 (a1x.out x hx), (O1.out.2.1 x hx).2⟩, O1.out.2.2⟩)
  have P1 := Lib.hid (Own.keep (O2.out.up ((Ext.refl _).alloc _)) hg1 a20.out)
  have r1 := ((hg1.block w.heap.size (by simp) (by
    intro e
    have := (World.ownsRow.lt O0.out _ e.symm).2
    omega)).trans (heap_alloc_new w _))
  have d1 : w1.cell? ⟨w.heap.size, 1, none⟩ = some (.slice p1 bs.length c1) := cell_of_row w1 w.heap.size 1 _ _ _ r1
  have L1 : LtS w.heap.size w1 := LtS.of_some d1
  have R1 := Lib.hid r1
  clear hg1 r1
  go_wp2_with fail
  refine (markBlockS_weak s2 s1 w0 w1 bs _ _ B1.out U1.out UX.out E1.out (Nat.le_trans hlo h1) (by omega) (by omega) (by omega)).mono ?_; rintro e w2 ⟨rfl, hE2, hK2⟩
  have r2 := (hK2.2 w.heap.size (by omega) L1.lt).trans R1.out
  have d2 : w2.cell? ⟨w.heap.size, 2, none⟩ = some (.slice p2 pr.length c2) := cell_of_row w2 w.heap.size 2 _ _ _ r2
  have L2 : LtS w.heap.size w2 := LtS.of_some d2
  have P2 := Lib.hid (Own.keepHi P1.out hK2 (Nat.le_refl _))
  have E2 := Lib.hid hE2
  have K2 := Lib.hid (K1.out.trans (Keep.mono hK2 h3))
  clear r2 hE2 hK2
  go_wp2_with fail
  refine (markIntS_any s2 pr _ _ _ P2.out (by omega) (by omega) (by omega)).mono ?_; rintro e w3 ⟨rfl, hg3, _⟩
  have E3 := Lib.hid (E2.out.grown hg3 fun j hj => Nat.le_trans (Nat.le_trans hlo (Nat.le_trans h1 h2)) (World.ownsRow.lt P2.out j hj).1)
  have K3 := Lib.hid (K2.out.trans (Keep.grown hg3 U2.out))
  clear hg3
  go_wp2_with fail
  go_ret
  exact ⟨_, rfl, by omega, E3.out, K3.out⟩
end Go.Proofs.Ytknohbdhbjppjaa
namespace Go.Proofs.Ytknohbdhbjppjaa
open Go Go.RowKit Go.Proofs

section
variable {eE eB eA eI lo : Nat} {w w' : World} {v0 v1 v2 : Value} {base : List Ent} {bs : List TB} {pr : List Int}
theorem off_row {α : Type} {enc : α → List Value} {e sz : Nat} {v : Value} {l : List α} (h : Own enc e sz lo w v l) {X : Nat} (hX : X < lo ∨ w.heap.size ≤ X) : v.ownBlock ≠ some X := by
  intro e
  have := World.ownsRow.lt h X e
  omega
theorem OTA.set (h : OTA eE eB eA eI lo w v0 v1 v2 base bs pr) {X : Nat} (i : Nat) (u : Value) (h0 : v0.ownBlock ≠ some X) (h1 : v1.ownBlock ≠ some X) (h2 : v2.ownBlock ≠ some X) (hb : ∀ x ∈ bs, x.v.ownBlock ≠ some X) :
    OTA eE eB eA eI lo (w.setCell ⟨X, i, none⟩ u) v0 v1 v2 base bs pr :=
  ⟨h.obase.setApart i u (.inr h0), ⟨h.obs.1.setApart i u (.inr h1), fun x hx => ⟨(h.obs.2.1 x hx).1.setApart i u (.inr (hb x hx)), (h.obs.2.1 x hx).2⟩, h.obs.2.2⟩, h.opr.setApart i u (.inr h2), h.a01, h.a21, h.a02, h.in0, h.in2⟩
theorem OTA.setOld (h : OTA eE eB eA eI lo w v0 v1 v2 base bs pr) (a : Addr) (u : Value) (hlt : a.block < lo) : OTA eE eB eA eI lo (w.setCell a u) v0 v1 v2 base bs pr :=
  ⟨h.obase.setOld a u hlt, h.obs.setOld a u hlt, h.opr.setOld a u hlt, h.a01, h.a21, h.a02, h.in0, h.in2⟩
theorem OTA.off (h : OTA eE eB eA eI lo w v0 v1 v2 base bs pr) {X : Nat} (hX : X < lo ∨ w.heap.size ≤ X) : v0.ownBlock ≠ some X ∧ v1.ownBlock ≠ some X ∧ v2.ownBlock ≠ some X ∧ ∀ x ∈ bs, x.v.ownBlock ≠ some X :=
  ⟨off_row h.obase hX, off_row h.obs.1 hX, off_row h.opr hX, fun x hx => off_row (h.obs.2.1 x hx).1 hX⟩
theorem OTA.new {α : Type} {enc : α → List Value} {e sz lo' : Nat} {w2 : World} {v : Value} {l : List α} (h : OTA eE eB eA eI lo w v0 v1 v2 base bs pr) (o : Own enc e sz lo' w2 v l) (hl : w.heap.size ≤ lo') : Apart v0 v ∧ Apart v1 v ∧ Apart v2 v ∧ ∀ x ∈ bs, Apart x.v v :=
  ⟨Apart.of_lt h.obase o hl, Apart.of_lt h.obs.1 o hl, Apart.of_lt h.opr o hl, fun x hx => Apart.of_lt (h.obs.2.1 x hx).1 o hl⟩
theorem OTA.snocB {v1' : Value} {x : TB} (h : OTA eE eB eA eI lo w v0 v1 v2 base bs pr) (hg : w.grownBy w' v1.ownBlock) (hb : v1'.ownBlock = v1.ownBlock ∨ v1'.ownBlock = some w.heap.size)
    (ho : Own TB.enc eB 6 lo w' v1' (bs ++ [x])) (hx : Own Actn.enc eA 4 lo w x.v x.l) (a0 : Apart v0 x.v) (a1 : Apart v1 x.v) (a2 : Apart v2 x.v) (ab : ∀ y ∈ bs, Apart y.v x.v) : OTA eE eB eA eI lo w' v0 v1' v2 base (bs ++ [x]) pr := by
  refine ⟨h.obase.keep hg h.a01, h.obs.snoc hg hb ho hx a1.symm ab, h.opr.keep hg h.a21, Apart.grown h.obase h.a01 (Nat.le_refl _) hb, Apart.grown h.opr h.a21 (Nat.le_refl _) hb, h.a02, fun y hy => ?_, fun y hy => ?_⟩
  · rcases List.mem_append.1 hy with hy | hy
    · exact h.in0 y hy
    · rw [List.mem_singleton] at hy; subst hy; exact a0.symm
  · rcases List.mem_append.1 hy with hy | hy
    · exact h.in2 y hy
    · rw [List.mem_singleton] at hy; subst hy; exact a2.symm
theorem OTA.snocI {v2' : Value} {n : Int} (h : OTA eE eB eA eI lo w v0 v1 v2 base bs pr) (hg : w.grownBy w' v2.ownBlock) (hb : v2'.ownBlock = v2.ownBlock ∨ v2'.ownBlock = some w.heap.size)
    (ho : Own encI eI 1 lo w' v2' (pr ++ [n])) : OTA eE eB eA eI lo w' v0 v1 v2' base bs (pr ++ [n]) := by
  refine ⟨h.obase.keep hg h.a02, ⟨h.obs.1.keep hg h.a21.symm, fun x hx => ⟨(h.obs.2.1 x hx).1.keep hg (h.in2 x hx), (h.obs.2.1 x hx).2⟩, h.obs.2.2⟩, ho, h.a01, ?_, Apart.grown h.obase h.a02 (Nat.le_refl _) hb, h.in0, fun x hx => Apart.grown (h.obs.2.1 x hx).1 (h.in2 x hx) (Nat.le_refl _) hb⟩
  exact (Apart.grown h.obs.1 h.a21.symm (Nat.le_refl _) hb).symm
theorem OTA.upR {rb : Nat} (h : OTA eE eB eA eI lo w v0 v1 v2 base bs pr) (hlt : rb < lo) (z : ExtR rb w) : OTA eE eB eA eI lo z.val v0 v1 v2 base bs pr :=
  ⟨h.obase.upR hlt z, ⟨h.obs.1.upR hlt z, fun x hx => ⟨(h.obs.2.1 x hx).1.upR hlt z, (h.obs.2.1 x hx).2⟩, h.obs.2.2⟩, h.opr.upR hlt z, h.a01, h.a21, h.a02, h.in0, h.in2⟩
theorem OT.ota {hi : Nat} (h : OT eE eB eA eI lo hi w v0 v1 v2 base bs pr) : OTA eE eB eA eI lo w v0 v1 v2 base bs pr := by
  obtain ⟨s1, s2, a, b, c, h1, h2, h3, h4, h5, h6, h7⟩ := h
  exact ⟨h1, h3.lo a, h6.lo (by omega), (h3.1.apartU h2 (Nat.le_refl _)).symm, h6.apartU h4 (Nat.le_refl _), (h6.apartU (h2.le b) (Nat.le_refl _)).symm, fun x hx => (h3.2.1 x hx).1.apartU h2 (Nat.le_refl _), fun x hx => (h6.apartU (h5 x hx) (Nat.le_refl _)).symm⟩
end
end Go.Proofs.Ytknohbdhbjppjaa
namespace Go.Proofs.Ytknohbdhbjppjaa
open Go Go.RowKit Go.Proofs

theorem S_of_gb {W w' : World} {rb : Nat} (h : W.grownBy w' (some rb)) : (∀ n i, ∀ [LtS n W] [NeS n rb], w'.cell? ⟨n, i, none⟩ = W.cell? ⟨n, i, none⟩) ∧ W.grownBy w' (some rb) := ⟨fun n i => (⟨w', h⟩ : ExtR rb W).cell n i, h⟩
theorem S_of_gbX {W w' : World} {rb G : Nat} (h : W.grownBy w' (some rb)) : ∀ n i, ∀ [LtS n W] [NeS n rb] [NeS n G], w'.cell? ⟨n, i, none⟩ = W.cell? ⟨n, i, none⟩ := fun n i => (⟨w', h⟩ : ExtR rb W).cell n i
theorem cell_setX (W : World) (G j : Nat) (a : Value) (n i : Nat) [h : NeS n G] : (W.setCell ⟨G, j, none⟩ a).cell? ⟨n, i, none⟩ = W.cell? ⟨n, i, none⟩ := by
  simp only [World.cell?, Below.heap_setCell W ⟨G, j, none⟩ a n h.ne]
/-- The tree in the box G while it grows; the result's box stands empty at the call's first number. -/
structure LT (eT eE eB eA eI rb G : Nat) (w wr : World) (u0 u1 u2 : Value) (t : Tree) (bs : List TB) : Prop where
  gb : w.grownBy wr (some rb)
  box : wr.heap[G]? = some (.cells #[u0, u1, u2] eT (0, 0))
  res : wr.heap[w.heap.size]? = some (.cells #[.slice none 0 0, .slice none 0 0, .slice none 0 0] eT (0, 0))
  ot : OTA eE eB eA eI (w.heap.size + 1) wr u0 u1 u2 t.base bs t.pr
  core : bs.map TB.core = t.bs
  ok : t.ok = true
  off : u0.ownBlock ≠ some G ∧ u1.ownBlock ≠ some G ∧ u2.ownBlock ≠ some G ∧ ∀ x ∈ bs, x.v.ownBlock ≠ some G
section
variable {eT eE eB eA eI rb G : Nat} {w wr : World} {u0 u1 u2 : Value} {t : Tree} {bs : List TB}
theorem LT.ltG (h : LT eT eE eB eA eI rb G w wr u0 u1 u2 t bs) : G < wr.heap.size := (Array.getElem?_eq_some_iff.1 h.box).1
theorem LT.ltR (h : LT eT eE eB eA eI rb G w wr u0 u1 u2 t bs) : w.heap.size < wr.heap.size := (Array.getElem?_eq_some_iff.1 h.res).1
theorem LT.st (h : LT eT eE eB eA eI rb G w wr u0 u1 u2 t bs) : ST wr u0 u1 u2 t := h.ot.st' h.core
theorem LT.upR (h : LT eT eE eB eA eI rb G w wr u0 u1 u2 t bs) (hrb : rb < w.heap.size) (hG : w.heap.size < G) (z : ExtR rb wr) : LT eT eE eB eA eI rb G w z.val u0 u1 u2 t bs :=
  ⟨grownBy_trans h.gb z.grown, (z.block h.ltG (by omega)).trans h.box, (z.block h.ltR (by omega)).trans h.res, h.ot.upR (by omega) z, h.core, h.ok, h.off⟩
theorem LT.up {w' : World} (h : LT eT eE eB eA eI rb G w wr u0 u1 u2 t bs) (hE : Ext wr w') : LT eT eE eB eA eI rb G w w' u0 u1 u2 t bs :=
  ⟨grownBy_trans h.gb (grownBy_ext hE), (hE.block h.ltG).trans h.box, (hE.block h.ltR).trans h.res, h.ot.up hE, h.core, h.ok, h.off⟩
theorem LT.setOff {B : Nat} (h : LT eT eE eB eA eI rb G w wr u0 u1 u2 t bs) (i : Nat) (u : Value) (hB : B ≠ G) (hR : w.heap.size < B) (hoff : u0.ownBlock ≠ some B ∧ u1.ownBlock ≠ some B ∧ u2.ownBlock ≠ some B ∧ ∀ x ∈ bs, x.v.ownBlock ≠ some B) :
    LT eT eE eB eA eI rb G w (wr.setCell ⟨B, i, none⟩ u) u0 u1 u2 t bs :=
  ⟨GB.setNew h.gb (by omega) i u, (Below.heap_setCell _ _ _ _ (Ne.symm hB)).trans h.box, (Below.heap_setCell _ _ _ _ (by dsimp only; omega)).trans h.res, h.ot.set i u hoff.1 hoff.2.1 hoff.2.2.1 hoff.2.2.2, h.core, h.ok, h.off⟩
theorem LT.put {lo : Nat} {y0 y1 y2 : Value} {t' : Tree} {bs' : List TB} (h : LT eT eE eB eA eI rb G w wr u0 u1 u2 t bs) (hG : w.heap.size < G) (ho : OTA eE eB eA eI lo wr y0 y1 y2 t'.base bs' t'.pr) (hlo : G < lo) (hc : bs'.map TB.core = t'.bs) (hk : t'.ok = true) :
    LT eT eE eB eA eI rb G w (((wr.setCell ⟨G, 0, none⟩ y0).setCell ⟨G, 1, none⟩ y1).setCell ⟨G, 2, none⟩ y2) y0 y1 y2 t' bs' := by
  have of := ho.off (X := G) (.inl hlo)
  refine ⟨GB.setNew (GB.setNew (GB.setNew h.gb (by omega) _ _) (by omega) _ _) (by omega) _ _, ?_, ?_, ?_, hc, hk, of⟩
  · exact (heap_setCell_same _ _ 2 _ _ _ ((heap_setCell_same _ _ 1 _ _ _ ((heap_setCell_same _ _ 0 _ _ _ h.box).trans rfl)).trans rfl)).trans rfl
  · exact (Below.heap_setCell _ _ _ _ (by dsimp only; omega)).trans ((Below.heap_setCell _ _ _ _ (by dsimp only; omega)).trans ((Below.heap_setCell _ _ _ _ (by dsimp only; omega)).trans h.res))
  · exact (((ho.set 0 y0 of.1 of.2.1 of.2.2.1 of.2.2.2).set 1 y1 of.1 of.2.1 of.2.2.1 of.2.2.2).set 2 y2 of.1 of.2.1 of.2.2.1 of.2.2.2).lo (by omega)
theorem LT.start {lo : Nat} {y0 y1 y2 : Value} (gb : w.grownBy wr (some rb)) (hres : wr.heap[w.heap.size]? = some (.cells #[.slice none 0 0, .slice none 0 0, .slice none 0 0] eT (0, 0))) (ho : OTA eE eB eA eI lo wr y0 y1 y2 t.base bs t.pr) (hlo : w.heap.size + 1 ≤ lo) (hc : bs.map TB.core = t.bs) (hk : t.ok = true) :
    LT eT eE eB eA eI rb wr.heap.size w (wr.alloc (.cells #[y0, y1, y2] eT)) y0 y1 y2 t bs := by
  have of := ho.off (X := wr.heap.size) (.inr (Nat.le_refl _))
  have hlt : w.heap.size < wr.heap.size := (Array.getElem?_eq_some_iff.1 hres).1
  exact ⟨GB.alloc gb _, heap_alloc_new _ _, (heap_alloc_old _ _ hlt).trans hres, (ho.up ((Ext.refl _).alloc _)).lo hlo, hc, hk, of⟩
/-- The tree's block number m, cell for cell. -/
theorem LT.blk (h : LT eT eE eB eA eI rb G w wr u0 u1 u2 t bs) (hrb : rb < w.heap.size) {m : Nat} (hm : m < t.bs.length) : ∃ (xb : Blk) (xl : List Actn) (pv : Option Addr) (cv : Nat) (b off c1 : Nat), u1 = .slice (some ⟨b, off, none⟩) t.bs.length c1 ∧ LtS b wr ∧ NeS b rb ∧ NeS b G ∧
    wr.cell? ⟨b, off + m * 6, none⟩ = some (.int .i64 xb.bf) ∧ wr.cell? ⟨b, off + m * 6 + 1, none⟩ = some (.int .i64 xb.ht) ∧ wr.cell? ⟨b, off + m * 6 + 2, none⟩ = some (.int .i64 xb.vw) ∧ wr.cell? ⟨b, off + m * 6 + 3, none⟩ = some (.slice pv xl.length cv) ∧ wr.cell? ⟨b, off + m * 6 + 4, none⟩ = some (.int .i64 xb.rt) ∧ wr.cell? ⟨b, off + m * 6 + 5, none⟩ = some (.int .i64 xb.ef) ∧
    Own Actn.enc eA 4 (w.heap.size + 1) wr (.slice pv xl.length cv) xl ∧ (Value.slice pv xl.length cv).ownBlock ≠ some G := by
  have hlen : bs.length = t.bs.length := by rw [← h.core, List.length_map]
  obtain ⟨x, hx⟩ := getElem?_some_of_lt (l := bs) (k := m) (by omega)
  obtain ⟨a, c1, hv, _, hc⟩ := (h.ot.obs.1.sl TB.enc_length).open
  obtain ⟨b, off, rfl, hb, hcell⟩ := hc m x hx
  have hmem := List.mem_of_getElem? hx
  have hown := (h.ot.obs.2.1 x hmem).1
  have hoffx := h.off.2.2.2 x hmem
  obtain ⟨xb, xv, xl⟩ := x
  obtain ⟨pv, cv, hpv, _, _⟩ := (hown.sl Actn.enc_length).openc
  simp only at hpv hown hoffx
  subst hpv
  have hrow : u1.ownBlock = some b := by rw [hv]; rfl
  refine ⟨xb, xl, pv, cv, b, off, c1, by rw [hv, hlen], hb, ⟨by have := (World.ownsRow.lt h.ot.obs.1 b hrow).1; omega⟩, ⟨fun e => h.off.2.1 (by rw [hrow, e])⟩, ?_, ?_, ?_, ?_, ?_, ?_, hown, hoffx⟩
  · simpa using hcell 0 _ rfl
  · exact hcell 1 _ rfl
  · exact hcell 2 _ rfl
  · exact hcell 3 _ rfl
  · exact hcell 4 _ rfl
  · exact hcell 5 _ rfl
end
theorem Rd.put {w0 w : World} {rb G : Nat} {lim : Int} (h : Rd w0 w rb lim) (y0 y1 y2 : Value) (hG : G ≠ rb) (h0 : w0.heap.size ≤ G) : Rd w0 (((w.setCell ⟨G, 0, none⟩ y0).setCell ⟨G, 1, none⟩ y1).setCell ⟨G, 2, none⟩ y2) rb lim :=
  ((h.set 0 y0 hG h0).set 1 y1 hG h0).set 2 y2 hG h0
end Go.Proofs.Ytknohbdhbjppjaa
