/- Walks: the laws' helpers of engines: sizes, copies, comparisons. -/
import Derived.Test.YtkboefmkfpnpjaaGEvTop19
import Derived.Test.YtkboefmkfpnpjaaGEvTop13
set_option linter.unusedSimpArgs false
set_option linter.unusedVariables false
namespace Go.Proofs.Ytkboefmkfpnpjaa
open Go Go.RowKit Go.Proofs

def totS (l : List Slt) : Nat := (l.map fun t => t.f.length + t.e.r.length + t.e.w.length).sum
theorem totS_snoc {l : List Slt} {k : Nat} {t : Slt} (h : l[k]? = some t) : totS (l.take (k + 1)) = totS (l.take k) + (t.f.length + t.e.r.length + t.e.w.length) := by
  rw [List.take_add_one, h]; simp [totS]
theorem totS_mem {l : List Slt} {t : Slt} (h : t ∈ l) : t.f.length + t.e.r.length + t.e.w.length ≤ totS l := by
  unfold totS
  induction l with
  | nil => cases h
  | cons y l ih =>
    rw [List.map_cons, List.sum_cons]
    rcases List.mem_cons.1 h with rfl | h
    · omega
    · have := ih h; omega
theorem szW {n : Int} {len : Nat} : szOf n len < 0 ∨ (0 ≤ szOf n len ∧ szOf n len = n - len) := by unfold szOf; split <;> omega
theorem fSlt : AppFacts Try.prog 79 90 6 96 := by
  have h : (Try.prog.info? 90).map (fun i => (i.zero, i.size, i.bytes)) = some (some (.agg #[.int .i64 0, .int .i64 0, .slice none 0 0, .bool false, .slice none 0 0, .slice none 0 0]), 6, 96) := by kernel_rfl
  obtain ⟨i0, hi, hz0, hz1, hz2⟩ := info_parts h
  exact ⟨Try.underlying79, ⟨i0, _, hi, hz0, hz1, hz2, rfl⟩, by decide⟩
/-- Slots that lie apart from all that is older. -/
def OSl (lo : Nat) (w : World) (v : Value) (l : List Slt) : Prop := ∃ ts : List TS, l = ts.map TS.core ∧ Own TS.enc 90 6 lo w v ts ∧ ∀ x ∈ ts, Own encI 3 1 lo w x.vf x.f ∧ Own Ent.enc 31 2 lo w x.vr x.r ∧ Own Ent.enc 31 2 lo w x.vw x.w
theorem OSl.ss {lo : Nat} {w : World} {v : Value} {l : List Slt} (h : OSl lo w v l) : SS w v l := by
  obtain ⟨ts, h1, h2, h3⟩ := h
  exact ⟨ts, h1, h2.sl TS.enc_length, fun x hx => ⟨(h3 x hx).1.sl encI_length, (h3 x hx).2.1.sl Ent.enc_length, (h3 x hx).2.2.sl Ent.enc_length⟩⟩
theorem OSl.up {lo : Nat} {w : World} {v : Value} {l : List Slt} (h : OSl lo w v l) {w' : World} (hE : Ext w w') : OSl lo w' v l := by
  obtain ⟨ts, h1, h2, h3⟩ := h
  exact ⟨ts, h1, h2.up hE, fun x hx => ⟨(h3 x hx).1.up hE, (h3 x hx).2.1.up hE, (h3 x hx).2.2.up hE⟩⟩
theorem OSl.setOld {lo : Nat} {w : World} {v : Value} {l : List Slt} (h : OSl lo w v l) (a : Addr) (u : Value) (hlt : a.block < lo) : OSl lo (w.setCell a u) v l := by
  obtain ⟨ts, h1, h2, h3⟩ := h
  exact ⟨ts, h1, h2.setOld a u hlt, fun x hx => ⟨(h3 x hx).1.setOld a u hlt, (h3 x hx).2.1.setOld a u hlt, (h3 x hx).2.2.setOld a u hlt⟩⟩
theorem OSl.lo {lo lo' : Nat} {w : World} {v : Value} {l : List Slt} (h : OSl lo w v l) (hlo : lo' ≤ lo) : OSl lo' w v l := by
  obtain ⟨ts, h1, h2, h3⟩ := h
  exact ⟨ts, h1, h2.lo hlo, fun x hx => ⟨(h3 x hx).1.lo hlo, (h3 x hx).2.1.lo hlo, (h3 x hx).2.2.lo hlo⟩⟩
theorem szEffect_any (x : Eff) (vr vw : Value) (n : Int) (w : World) (h1 : SL (RF Ent.enc) 2 w vr x.r) (h2 : SL (RF Ent.enc) 2 w vw x.w) (hn0 : 0 ≤ n) (hn1 : n ≤ 1048576) :
    Calls Try.prog 186 #[.agg #[.bool x.d, vr, vw], .int .i64 n] w fun e w' => ∃ m : Int, e = .returned (.int .i64 m) ∧ (m < 0 ∨ (0 ≤ m ∧ m = n - (x.r.length + x.w.length))) ∧ Up w w' := by
  have H1 := Lib.hid h1; have H2 := Lib.hid h2
  obtain ⟨p1, c1, rfl, _, _⟩ := h1.openc
  obtain ⟨p2, c2, rfl, _, _⟩ := h2.openc
  have k1 := fun w h => szEntryS_any x.r (.slice p1 x.r.length c1) n w h hn0 hn1
  have hq := szW (n := n) (len := x.r.length)
  generalize szOf n x.r.length = q at k1 hq
  clear h1 h2
  go_enter Try.func186, Try.ntmps186
  go_wp2_with fail
  refine (k1 _ (H1.out.up (by repeat (first | (with_reducible exact Ext.refl _) | (with_reducible refine Ext.up ?_ _) | (with_reducible refine Ext.alloc ?_ _) | (with_reducible refine Ext.drew ?_) | (with_reducible refine Ext.setRow ?_ (by first | exact LeS.le | exact LeS.add _ | (simp; done) | (simp; omega)) _) | (with_reducible refine Ext.setCell ?_ (by first | exact LeS.le | exact LeS.add _ | (simp; done) | (simp; omega)) _))))).mono ?_; rintro e w' ⟨rfl, ⟨z1, rfl⟩⟩
  rcases hq with hq | ⟨hq0, hq⟩
  · go_wp2_with fail
    go_ret
    exact ⟨_, rfl, .inl (by omega), (.of (by repeat (first | (with_reducible exact Ext.refl _) | (with_reducible refine Ext.up ?_ _) | (with_reducible refine Ext.alloc ?_ _) | (with_reducible refine Ext.drew ?_) | (with_reducible refine Ext.setRow ?_ (by first | exact LeS.le | exact LeS.add _ | (simp; done) | (simp; omega)) _) | (with_reducible refine Ext.setCell ?_ (by first | exact LeS.le | exact LeS.add _ | (simp; done) | (simp; omega)) _))))⟩
  have HQ := Lib.hid hq
  have k2 := fun w h => szEntryS_any x.w (.slice p2 x.w.length c2) q w h hq0 (by omega)
  have hr := szW (n := q) (len := x.w.length)
  generalize szOf q x.w.length = r at k2 hr
  clear hq
  go_wp2_with fail
  refine (k2 _ (H2.out.up (by repeat (first | (with_reducible exact Ext.refl _) | (with_reducible refine Ext.up ?_ _) | (with_reducible refine Ext.alloc ?_ _) | (with_reducible refine Ext.drew ?_) | (with_reducible refine Ext.setRow ?_ (by first | exact LeS.le | exact LeS.add _ | (simp; done) | (simp; omega)) _) | (with_reducible refine Ext.setCell ?_ (by first | exact LeS.le | exact LeS.add _ | (simp; done) | (simp; omega)) _))))).mono ?_; rintro e w' ⟨rfl, ⟨z2, rfl⟩⟩
  rcases hr with hr | ⟨hr0, hr⟩
  · go_wp2_with fail
    go_ret
    exact ⟨_, rfl, .inl (by first | omega | assumption), (.of (by repeat (first | (with_reducible exact Ext.refl _) | (with_reducible refine Ext.up ?_ _) | (with_reducible refine Ext.alloc ?_ _) | (with_reducible refine Ext.drew ?_) | (with_reducible refine Ext.setRow ?_ (by first | exact LeS.le | exact LeS.add _ | (simp; done) | (simp; omega)) _) | (with_reducible refine Ext.setCell ?_ (by first | exact LeS.le | exact LeS.add _ | (simp; done) | (simp; omega)) _))))⟩
  have HR := Lib.hid hr
  clear hr
  go_wp2_with fail
  go_ret
  exact ⟨_, rfl, .inr ⟨hr0, by have := HR.out; have := HQ.out; omega⟩, (.of (by repeat (first | (with_reducible exact Ext.refl _) | (with_reducible refine Ext.up ?_ _) | (with_reducible refine Ext.alloc ?_ _) | (with_reducible refine Ext.drew ?_) | (with_reducible refine Ext.setRow ?_ (by first | exact LeS.le | exact LeS.add _ | (simp; done) | (simp; omega)) _) | (with_reducible refine Ext.setCell ?_ (by first | exact LeS.le | exact LeS.add _ | (simp; done) | (simp; omega)) _))))⟩
theorem szSlot_any (t : Slt) (vf vr vw : Value) (n : Int) (w : World) (h0 : SL (RF encI) 1 w vf t.f) (h1 : SL (RF Ent.enc) 2 w vr t.e.r) (h2 : SL (RF Ent.enc) 2 w vw t.e.w) (hn0 : 0 ≤ n) (hn1 : n ≤ 1048576) :
    Calls Try.prog 149 #[.agg #[.int .i64 t.st, .int .i64 t.tr, vf, .bool t.e.d, vr, vw], .int .i64 n] w fun e w' => ∃ m : Int, e = .returned (.int .i64 m) ∧ (m < 0 ∨ (0 ≤ m ∧ m = n - (t.f.length + t.e.r.length + t.e.w.length))) ∧ Up w w' := by
  have H0 := Lib.hid h0; have H1 := Lib.hid h1; have H2 := Lib.hid h2
  obtain ⟨p0, c0, rfl, _, _⟩ := h0.openc
  obtain ⟨p1, c1, rfl, _, _⟩ := h1.openc
  obtain ⟨p2, c2, rfl, _, _⟩ := h2.openc
  have k1 := fun w h => szIntS_any t.f (.slice p0 t.f.length c0) n w h hn0 hn1
  have hq := szW (n := n) (len := t.f.length)
  generalize szOf n t.f.length = q at k1 hq
  clear h0 h1 h2
  go_enter Try.func149, Try.ntmps149
  go_wp2_with fail
  refine (k1 _ (H0.out.up (by repeat (first | (with_reducible exact Ext.refl _) | (with_reducible refine Ext.up ?_ _) | (with_reducible refine Ext.alloc ?_ _) | (with_reducible refine Ext.drew ?_) | (with_reducible refine Ext.setRow ?_ (by first | exact LeS.le | exact LeS.add _ | (simp; done) | (simp; omega)) _) | (with_reducible refine Ext.setCell ?_ (by first | exact LeS.le | exact LeS.add _ | (simp; done) | (simp; omega)) _))))).mono ?_; rintro e w' ⟨rfl, ⟨z1, rfl⟩⟩
  rcases hq with hq | ⟨hq0, hq⟩
  · go_wp2_with fail
    go_ret
    exact ⟨_, rfl, .inl (by omega), (.of (by repeat (first | (with_reducible exact Ext.refl _) | (with_reducible refine Ext.up ?_ _) | (with_reducible refine Ext.alloc ?_ _) | (with_reducible refine Ext.drew ?_) | (with_reducible refine Ext.setRow ?_ (by first | exact LeS.le | exact LeS.add _ | (simp; done) | (simp; omega)) _) | (with_reducible refine Ext.setCell ?_ (by first | exact LeS.le | exact LeS.add _ | (simp; done) | (simp; omega)) _))))⟩
  have HQ := Lib.hid hq
  have k2 := fun w h h' => szEffect_any t.e (.slice p1 t.e.r.length c1) (.slice p2 t.e.w.length c2) q w h h' hq0 (by omega)
  clear hq
  go_wp2_with fail
  refine (k2 _ (H1.out.up (by repeat (first | (with_reducible exact Ext.refl _) | (with_reducible refine Ext.up ?_ _) | (with_reducible refine Ext.alloc ?_ _) | (with_reducible refine Ext.drew ?_) | (with_reducible refine Ext.setRow ?_ (by first | exact LeS.le | exact LeS.add _ | (simp; done) | (simp; omega)) _) | (with_reducible refine Ext.setCell ?_ (by first | exact LeS.le | exact LeS.add _ | (simp; done) | (simp; omega)) _)))) (H2.out.up (by repeat (first | (with_reducible exact Ext.refl _) | (with_reducible refine Ext.up ?_ _) | (with_reducible refine Ext.alloc ?_ _) | (with_reducible refine Ext.drew ?_) | (with_reducible refine Ext.setRow ?_ (by first | exact LeS.le | exact LeS.add _ | (simp; done) | (simp; omega)) _) | (with_reducible refine Ext.setCell ?_ (by first | exact LeS.le | exact LeS.add _ | (simp; done) | (simp; omega)) _))))).mono ?_; rintro e w' ⟨r, rfl, hr, ⟨z2, rfl⟩⟩
  rcases hr with hr | ⟨hr0, hr⟩
  · go_wp2_with fail
    go_ret
    exact ⟨_, rfl, .inl (by first | omega | assumption), (.of (by repeat (first | (with_reducible exact Ext.refl _) | (with_reducible refine Ext.up ?_ _) | (with_reducible refine Ext.alloc ?_ _) | (with_reducible refine Ext.drew ?_) | (with_reducible refine Ext.setRow ?_ (by first | exact LeS.le | exact LeS.add _ | (simp; done) | (simp; omega)) _) | (with_reducible refine Ext.setCell ?_ (by first | exact LeS.le | exact LeS.add _ | (simp; done) | (simp; omega)) _))))⟩
  have HR := Lib.hid hr
  clear hr
  go_wp2_with fail
  go_ret
  exact ⟨_, rfl, .inr ⟨hr0, by have := HR.out; have := HQ.out; omega⟩, (.of (by repeat (first | (with_reducible exact Ext.refl _) | (with_reducible refine Ext.up ?_ _) | (with_reducible refine Ext.alloc ?_ _) | (with_reducible refine Ext.drew ?_) | (with_reducible refine Ext.setRow ?_ (by first | exact LeS.le | exact LeS.add _ | (simp; done) | (simp; omega)) _) | (with_reducible refine Ext.setCell ?_ (by first | exact LeS.le | exact LeS.add _ | (simp; done) | (simp; omega)) _))))⟩
set_option maxRecDepth 100000 in
set_option maxHeartbeats 1000000 in
theorem szSlotS_any (l : List Slt) (v : Value) (n : Int) (w : World) (h : SS w v l) (hn0 : 0 ≤ n) (hn1 : n ≤ 1048576) :
    Calls Try.prog 109 #[v, .int .i64 n] w fun e w' => ∃ m : Int, e = .returned (.int .i64 m) ∧ (m < 0 ∨ (0 ≤ m ∧ m = n - l.length - totS l)) ∧ Up w w' := by
  obtain ⟨a, cap, rfl, hlen, hc⟩ := h.open
  have HC := Lib.hid hc
  clear h hc
  by_cases hz : n - l.length < 0
  · go_enter Try.func109, Try.ntmps109
    go_wp2_with fail
    go_ret
    exact ⟨_, rfl, .inl (by omega), (.of (by repeat (first | exact Ext.refl _ | refine Ext.up ?_ _ | refine Ext.alloc ?_ _ | refine Ext.drew ?_ | refine Ext.setRow ?_ (by first | (dsimp only; omega) | exact LeS.le | exact LeS.add _ | (simp; done) | (simp; omega)) _ | refine Ext.setCell ?_ (by first | (dsimp only; omega) | exact LeS.le | exact LeS.add _ | (simp; done) | (simp; omega)) _)))⟩
  go_enter Try.func109, Try.ntmps109
  go_wp2_with fail
  go_loopw [1, 5] (fun s1 s4 wr => ∃ (k : Nat) (m : Int), s4 = .int .i64 k ∧ s1 = .int .i64 m ∧ m = n - l.length - totS (l.take k) ∧ 0 ≤ m ∧ k ≤ l.length ∧ Up w wr) (fun _ s4 _ => l.length - (intOf s4).toNat)
  case atStart => exact ⟨0, _, rfl, rfl, by simp [totS], by omega, Nat.zero_le _, (.of (by repeat (first | exact Ext.refl _ | refine Ext.up ?_ _ | refine Ext.alloc ?_ _ | refine Ext.drew ?_ | refine Ext.setRow ?_ (by first | (dsimp only; omega) | exact LeS.le | exact LeS.add _ | (simp; done) | (simp; omega)) _ | refine Ext.setCell ?_ (by first | (dsimp only; omega) | exact LeS.le | exact LeS.add _ | (simp; done) | (simp; omega)) _)))⟩
  case round =>
    obtain ⟨k, m, rfl, rfl, hm, hm0, hk, ⟨z, rfl⟩⟩ := hrel
    by_cases hlt : k < l.length
    · obtain ⟨t, ht⟩ := getElem?_some_of_lt hlt
      obtain ⟨b, off, q0, d0, q1, d1, q2, d2, rfl, hb, ⟨e0, e1, e2, e3, e4, e5⟩, s0, s1, s2⟩ := HC.out k t ht
      have Hs := Lib.hid (totS_snoc ht)
      have S0 := Lib.hid s0; have S1 := Lib.hid s1; have S2 := Lib.hid s2
      have Hm := Lib.hid hm
      have hm1 : m ≤ 1048576 := by omega
      have k0 : (0 : Int) ≤ (k : Int) := by omega
      have k1 : (k : Int) < l.length := by omega
      clear ht s0 s1 s2 hm
      have kz := fun w h h' h'' => szSlot_any t (.slice q0 t.f.length d0) (.slice q1 t.e.r.length d1) (.slice q2 t.e.w.length d2) m w h h' h'' hm0 hm1
      go_wp2_with fail
      refine (kz _ (S0.out.up (by repeat (first | (with_reducible exact Ext.refl _) | (with_reducible refine Ext.up ?_ _) | (with_reducible refine Ext.alloc ?_ _) | (with_reducible refine Ext.drew ?_) | (with_reducible refine Ext.setRow ?_ (by first | exact LeS.le | exact LeS.add _ | (simp; done) | (simp; omega)) _) | (with_reducible refine Ext.setCell ?_ (by first | exact LeS.le | exact LeS.add _ | (simp; done) | (simp; omega)) _)))) (S1.out.up (by repeat (first | (with_reducible exact Ext.refl _) | (with_reducible refine Ext.up ?_ _) | (with_reducible refine Ext.alloc ?_ _) | (with_reducible refine Ext.drew ?_) | (with_reducible refine Ext.setRow ?_ (by first | exact LeS.le | exact LeS.add _ | (simp; done) | (simp; omega)) _) | (with_reducible refine Ext.setCell ?_ (by first | exact LeS.le | exact LeS.add _ | (simp; done) | (simp; omega)) _)))) (S2.out.up (by repeat (first | (with_reducible exact Ext.refl _) | (with_reducible refine Ext.up ?_ _) | (with_reducible refine Ext.alloc ?_ _) | (with_reducible refine Ext.drew ?_) | (with_reducible refine Ext.setRow ?_ (by first | exact LeS.le | exact LeS.add _ | (simp; done) | (simp; omega)) _) | (with_reducible refine Ext.setCell ?_ (by first | exact LeS.le | exact LeS.add _ | (simp; done) | (simp; omega)) _))))).mono ?_; rintro e w' ⟨r, rfl, hr, ⟨z2, rfl⟩⟩
      rcases hr with hr | ⟨hr0, hr⟩
      · go_wp2_with fail
        go_ret
        exact ⟨_, rfl, .inl (by first | omega | assumption), (.of (by repeat (first | (with_reducible exact Ext.refl _) | (with_reducible refine Ext.up ?_ _) | (with_reducible refine Ext.alloc ?_ _) | (with_reducible refine Ext.drew ?_) | (with_reducible refine Ext.setRow ?_ (by first | exact LeS.le | exact LeS.add _ | (simp; done) | (simp; omega)) _) | (with_reducible refine Ext.setCell ?_ (by first | exact LeS.le | exact LeS.add _ | (simp; done) | (simp; omega)) _))))⟩
      have HR := Lib.hid hr
      clear hr
      go_wp2_with fail
      go_roundw
      case rel => exact ⟨k + 1, _, by go_num, rfl, by have h1 := Hs.out; have h2 := Hm.out; have h3 := HR.out; omega, by omega, by omega, (.of (by repeat (first | (with_reducible exact Ext.refl _) | (with_reducible refine Ext.up ?_ _) | (with_reducible refine Ext.alloc ?_ _) | (with_reducible refine Ext.drew ?_) | (with_reducible refine Ext.setRow ?_ (by first | exact LeS.le | exact LeS.add _ | (simp; done) | (simp; omega)) _) | (with_reducible refine Ext.setCell ?_ (by first | exact LeS.le | exact LeS.add _ | (simp; done) | (simp; omega)) _))))⟩
      case measure => simp [intOf]; omega
    · go_wp2_with fail
      go_ret
      obtain rfl : k = l.length := by omega
      rw [List.take_length] at hm
      exact ⟨_, rfl, .inr ⟨hm0, hm⟩, (.of (by repeat (first | exact Ext.refl _ | refine Ext.up ?_ _ | refine Ext.alloc ?_ _ | refine Ext.drew ?_ | refine Ext.setRow ?_ (by first | (dsimp only; omega) | exact LeS.le | exact LeS.add _ | (simp; done) | (simp; omega)) _ | refine Ext.setCell ?_ (by first | (dsimp only; omega) | exact LeS.le | exact LeS.add _ | (simp; done) | (simp; omega)) _)))⟩
set_option maxHeartbeats 1000000 in
theorem szEngine_any (g : Eng) (v0 v1 v2 v3 : Value) (n : Int) (w : World) (h : SG w v0 v1 v2 v3 g) (hn0 : 0 ≤ n) (hn1 : n ≤ 1048576) :
    Calls Try.prog 48 #[.agg #[v0, v1, v2, v3], .int .i64 n] w fun e w' => ∃ m : Int, e = .returned (.int .i64 m) ∧ (m < 0 ∨ (0 ≤ m ∧ m = n - (g.base.length + g.acts.length + g.vers.length + g.sl.length + totS g.sl))) ∧ Up w w' := by
  obtain ⟨h0, h1, h2, h3⟩ := h
  have H0 := Lib.hid h0; have H1 := Lib.hid h1; have H2 := Lib.hid h2; have H3 := Lib.hid h3
  obtain ⟨p0, c0, rfl, _, _⟩ := h0.openc
  obtain ⟨p1, c1, rfl, _, _⟩ := h1.openc
  obtain ⟨p2, c2, rfl, _, _⟩ := h2.openc
  obtain ⟨p3, c3, rfl, _, -⟩ := h3.open
  have k1 := fun w h => szEntryS_any g.base (.slice p0 g.base.length c0) n w h hn0 hn1
  have hq := szW (n := n) (len := g.base.length)
  generalize szOf n g.base.length = q at k1 hq
  clear h0 h1 h2 h3
  go_enter Try.func48, Try.ntmps48
  go_wp2_with fail
  refine (k1 _ (H0.out.up (by repeat (first | (with_reducible exact Ext.refl _) | (with_reducible refine Ext.up ?_ _) | (with_reducible refine Ext.alloc ?_ _) | (with_reducible refine Ext.drew ?_) | (with_reducible refine Ext.setRow ?_ (by first | exact LeS.le | exact LeS.add _ | (simp; done) | (simp; omega)) _) | (with_reducible refine Ext.setCell ?_ (by first | exact LeS.le | exact LeS.add _ | (simp; done) | (simp; omega)) _))))).mono ?_; rintro e w' ⟨rfl, ⟨z1, rfl⟩⟩
  rcases hq with hq | ⟨hq0, hq⟩
  · go_wp2_with fail
    go_ret
    exact ⟨_, rfl, .inl (by omega), (.of (by repeat (first | (with_reducible exact Ext.refl _) | (with_reducible refine Ext.up ?_ _) | (with_reducible refine Ext.alloc ?_ _) | (with_reducible refine Ext.drew ?_) | (with_reducible refine Ext.setRow ?_ (by first | exact LeS.le | exact LeS.add _ | (simp; done) | (simp; omega)) _) | (with_reducible refine Ext.setCell ?_ (by first | exact LeS.le | exact LeS.add _ | (simp; done) | (simp; omega)) _))))⟩
  have HQ := Lib.hid hq
  have k2 := fun w h => szActionS_any g.acts (.slice p1 g.acts.length c1) q w h hq0 (by omega)
  have hr := szW (n := q) (len := g.acts.length)
  generalize szOf q g.acts.length = r at k2 hr
  have hq1 : q ≤ 1048576 := by omega
  clear hq
  go_wp2_with fail
  refine (k2 _ (H1.out.up (by repeat (first | (with_reducible exact Ext.refl _) | (with_reducible refine Ext.up ?_ _) | (with_reducible refine Ext.alloc ?_ _) | (with_reducible refine Ext.drew ?_) | (with_reducible refine Ext.setRow ?_ (by first | exact LeS.le | exact LeS.add _ | (simp; done) | (simp; omega)) _) | (with_reducible refine Ext.setCell ?_ (by first | exact LeS.le | exact LeS.add _ | (simp; done) | (simp; omega)) _))))).mono ?_; rintro e w' ⟨rfl, ⟨z2, rfl⟩⟩
  rcases hr with hr | ⟨hr0, hr⟩
  · go_wp2_with fail
    go_ret
    exact ⟨_, rfl, .inl (by first | omega | assumption), (.of (by repeat (first | (with_reducible exact Ext.refl _) | (with_reducible refine Ext.up ?_ _) | (with_reducible refine Ext.alloc ?_ _) | (with_reducible refine Ext.drew ?_) | (with_reducible refine Ext.setRow ?_ (by first | exact LeS.le | exact LeS.add _ | (simp; done) | (simp; omega)) _) | (with_reducible refine Ext.setCell ?_ (by first | exact LeS.le | exact LeS.add _ | (simp; done) | (simp; omega)) _))))⟩
  have HR := Lib.hid hr
  have k3 := fun w h => szVersionS_any g.vers (.slice p2 g.vers.length c2) r w h hr0 (by omega)
  have hs := szW (n := r) (len := g.vers.length)
  generalize szOf r g.vers.length = s at k3 hs
  have hr1 : r ≤ 1048576 := by omega
  clear hr
  go_wp2_with fail
  refine (k3 _ (H2.out.up (by repeat (first | (with_reducible exact Ext.refl _) | (with_reducible refine Ext.up ?_ _) | (with_reducible refine Ext.alloc ?_ _) | (with_reducible refine Ext.drew ?_) | (with_reducible refine Ext.setRow ?_ (by first | exact LeS.le | exact LeS.add _ | (simp; done) | (simp; omega)) _) | (with_reducible refine Ext.setCell ?_ (by first | exact LeS.le | exact LeS.add _ | (simp; done) | (simp; omega)) _))))).mono ?_; rintro e w' ⟨rfl, ⟨z3, rfl⟩⟩
  rcases hs with hs | ⟨hs0, hs⟩
  · go_wp2_with fail
    go_ret
    exact ⟨_, rfl, .inl (by first | omega | assumption), (.of (by repeat (first | (with_reducible exact Ext.refl _) | (with_reducible refine Ext.up ?_ _) | (with_reducible refine Ext.alloc ?_ _) | (with_reducible refine Ext.drew ?_) | (with_reducible refine Ext.setRow ?_ (by first | exact LeS.le | exact LeS.add _ | (simp; done) | (simp; omega)) _) | (with_reducible refine Ext.setCell ?_ (by first | exact LeS.le | exact LeS.add _ | (simp; done) | (simp; omega)) _))))⟩
  have HS := Lib.hid hs
  have k4 := fun w h => szSlotS_any g.sl (.slice p3 g.sl.length c3) s w h hs0 (by omega)
  clear hs
  go_wp2_with fail
  refine (k4 _ (H3.out.up (by repeat (first | (with_reducible exact Ext.refl _) | (with_reducible refine Ext.up ?_ _) | (with_reducible refine Ext.alloc ?_ _) | (with_reducible refine Ext.drew ?_) | (with_reducible refine Ext.setRow ?_ (by first | exact LeS.le | exact LeS.add _ | (simp; done) | (simp; omega)) _) | (with_reducible refine Ext.setCell ?_ (by first | exact LeS.le | exact LeS.add _ | (simp; done) | (simp; omega)) _))))).mono ?_; rintro e w' ⟨u, rfl, hu, ⟨z4, rfl⟩⟩
  rcases hu with hu | ⟨hu0, hu⟩
  · go_wp2_with fail
    go_ret
    exact ⟨_, rfl, .inl (by first | omega | assumption), (.of (by repeat (first | (with_reducible exact Ext.refl _) | (with_reducible refine Ext.up ?_ _) | (with_reducible refine Ext.alloc ?_ _) | (with_reducible refine Ext.drew ?_) | (with_reducible refine Ext.setRow ?_ (by first | exact LeS.le | exact LeS.add _ | (simp; done) | (simp; omega)) _) | (with_reducible refine Ext.setCell ?_ (by first | exact LeS.le | exact LeS.add _ | (simp; done) | (simp; omega)) _))))⟩
  have HU := Lib.hid hu
  clear hu
  go_wp2_with fail
  go_ret
  exact ⟨_, rfl, .inr ⟨hu0, by have := HU.out; have := HS.out; have := HR.out; have := HQ.out; omega⟩, (.of (by repeat (first | (with_reducible exact Ext.refl _) | (with_reducible refine Ext.up ?_ _) | (with_reducible refine Ext.alloc ?_ _) | (with_reducible refine Ext.drew ?_) | (with_reducible refine Ext.setRow ?_ (by first | exact LeS.le | exact LeS.add _ | (simp; done) | (simp; omega)) _) | (with_reducible refine Ext.setCell ?_ (by first | exact LeS.le | exact LeS.add _ | (simp; done) | (simp; omega)) _))))⟩
set_option maxHeartbeats 1000000 in
theorem eqEffectE_same (x : Eff) (vr vw vr' vw' : Value) (w : World) (h1 : SL (RF Ent.enc) 2 w vr x.r) (h2 : SL (RF Ent.enc) 2 w vw x.w) (h3 : SL (RF Ent.enc) 2 w vr' x.r) (h4 : SL (RF Ent.enc) 2 w vw' x.w) :
    Calls Try.prog 191 #[.agg #[.bool x.d, vr, vw], .agg #[.bool x.d, vr', vw']] w fun e w' => e = .returned (.bool true) ∧ Up w w' := by
  have H1 := Lib.hid h1; have H2 := Lib.hid h2; have H3 := Lib.hid h3; have H4 := Lib.hid h4
  obtain ⟨p1, c1, rfl, _, _⟩ := h1.openc
  obtain ⟨p2, c2, rfl, _, _⟩ := h2.openc
  obtain ⟨p3, c3, rfl, _, _⟩ := h3.openc
  obtain ⟨p4, c4, rfl, _, _⟩ := h4.openc
  clear h1 h2 h3 h4
  go_enter Try.func191, Try.ntmps191
  go_wp2_with fail
  refine (eqEntryS_same x.r _ _ _ (H1.out.up (by repeat (first | (with_reducible exact Ext.refl _) | (with_reducible refine Ext.up ?_ _) | (with_reducible refine Ext.alloc ?_ _) | (with_reducible refine Ext.drew ?_) | (with_reducible refine Ext.setRow ?_ (by first | exact LeS.le | exact LeS.add _ | (simp; done) | (simp; omega)) _) | (with_reducible refine Ext.setCell ?_ (by first | exact LeS.le | exact LeS.add _ | (simp; done) | (simp; omega)) _)))) (H3.out.up (by repeat (first | (with_reducible exact Ext.refl _) | (with_reducible refine Ext.up ?_ _) | (with_reducible refine Ext.alloc ?_ _) | (with_reducible refine Ext.drew ?_) | (with_reducible refine Ext.setRow ?_ (by first | exact LeS.le | exact LeS.add _ | (simp; done) | (simp; omega)) _) | (with_reducible refine Ext.setCell ?_ (by first | exact LeS.le | exact LeS.add _ | (simp; done) | (simp; omega)) _))))).mono ?_; rintro e w' ⟨rfl, z1, rfl⟩
  go_wp2_with fail
  refine (eqEntryS_same x.w _ _ _ (H2.out.up (by repeat (first | (with_reducible exact Ext.refl _) | (with_reducible refine Ext.up ?_ _) | (with_reducible refine Ext.alloc ?_ _) | (with_reducible refine Ext.drew ?_) | (with_reducible refine Ext.setRow ?_ (by first | exact LeS.le | exact LeS.add _ | (simp; done) | (simp; omega)) _) | (with_reducible refine Ext.setCell ?_ (by first | exact LeS.le | exact LeS.add _ | (simp; done) | (simp; omega)) _)))) (H4.out.up (by repeat (first | (with_reducible exact Ext.refl _) | (with_reducible refine Ext.up ?_ _) | (with_reducible refine Ext.alloc ?_ _) | (with_reducible refine Ext.drew ?_) | (with_reducible refine Ext.setRow ?_ (by first | exact LeS.le | exact LeS.add _ | (simp; done) | (simp; omega)) _) | (with_reducible refine Ext.setCell ?_ (by first | exact LeS.le | exact LeS.add _ | (simp; done) | (simp; omega)) _))))).mono ?_; rintro e w' ⟨rfl, z2, rfl⟩
  go_wp2_with fail
  go_ret
  exact ⟨rfl, (.of (by repeat (first | (with_reducible exact Ext.refl _) | (with_reducible refine Ext.up ?_ _) | (with_reducible refine Ext.alloc ?_ _) | (with_reducible refine Ext.drew ?_) | (with_reducible refine Ext.setRow ?_ (by first | exact LeS.le | exact LeS.add _ | (simp; done) | (simp; omega)) _) | (with_reducible refine Ext.setCell ?_ (by first | exact LeS.le | exact LeS.add _ | (simp; done) | (simp; omega)) _))))⟩
set_option maxHeartbeats 1000000 in
theorem eqSlot_same (t : Slt) (vf vr vw vf' vr' vw' : Value) (w : World) (h0 : SL (RF encI) 1 w vf t.f) (h1 : SL (RF Ent.enc) 2 w vr t.e.r) (h2 : SL (RF Ent.enc) 2 w vw t.e.w) (h3 : SL (RF encI) 1 w vf' t.f) (h4 : SL (RF Ent.enc) 2 w vr' t.e.r) (h5 : SL (RF Ent.enc) 2 w vw' t.e.w) :
    Calls Try.prog 162 #[.agg #[.int .i64 t.st, .int .i64 t.tr, vf, .bool t.e.d, vr, vw], .agg #[.int .i64 t.st, .int .i64 t.tr, vf', .bool t.e.d, vr', vw']] w fun e w' => e = .returned (.bool true) ∧ Up w w' := by
  have H0 := Lib.hid h0; have H1 := Lib.hid h1; have H2 := Lib.hid h2; have H3 := Lib.hid h3; have H4 := Lib.hid h4; have H5 := Lib.hid h5
  obtain ⟨p0, c0, rfl, _, _⟩ := h0.openc
  obtain ⟨p1, c1, rfl, _, _⟩ := h1.openc
  obtain ⟨p2, c2, rfl, _, _⟩ := h2.openc
  obtain ⟨p3, c3, rfl, _, _⟩ := h3.openc
  obtain ⟨p4, c4, rfl, _, _⟩ := h4.openc
  obtain ⟨p5, c5, rfl, _, _⟩ := h5.openc
  clear h0 h1 h2 h3 h4 h5
  go_enter Try.func162, Try.ntmps162
  go_wp2_with fail
  refine (eqIntS_same t.f _ _ _ (H0.out.up (by repeat (first | (with_reducible exact Ext.refl _) | (with_reducible refine Ext.up ?_ _) | (with_reducible refine Ext.alloc ?_ _) | (with_reducible refine Ext.drew ?_) | (with_reducible refine Ext.setRow ?_ (by first | exact LeS.le | exact LeS.add _ | (simp; done) | (simp; omega)) _) | (with_reducible refine Ext.setCell ?_ (by first | exact LeS.le | exact LeS.add _ | (simp; done) | (simp; omega)) _)))) (H3.out.up (by repeat (first | (with_reducible exact Ext.refl _) | (with_reducible refine Ext.up ?_ _) | (with_reducible refine Ext.alloc ?_ _) | (with_reducible refine Ext.drew ?_) | (with_reducible refine Ext.setRow ?_ (by first | exact LeS.le | exact LeS.add _ | (simp; done) | (simp; omega)) _) | (with_reducible refine Ext.setCell ?_ (by first | exact LeS.le | exact LeS.add _ | (simp; done) | (simp; omega)) _))))).mono ?_; rintro e w' ⟨rfl, z1, rfl⟩
  go_wp2_with fail
  refine (eqEffectE_same t.e _ _ _ _ _ (H1.out.up (by repeat (first | (with_reducible exact Ext.refl _) | (with_reducible refine Ext.up ?_ _) | (with_reducible refine Ext.alloc ?_ _) | (with_reducible refine Ext.drew ?_) | (with_reducible refine Ext.setRow ?_ (by first | exact LeS.le | exact LeS.add _ | (simp; done) | (simp; omega)) _) | (with_reducible refine Ext.setCell ?_ (by first | exact LeS.le | exact LeS.add _ | (simp; done) | (simp; omega)) _)))) (H2.out.up (by repeat (first | (with_reducible exact Ext.refl _) | (with_reducible refine Ext.up ?_ _) | (with_reducible refine Ext.alloc ?_ _) | (with_reducible refine Ext.drew ?_) | (with_reducible refine Ext.setRow ?_ (by first | exact LeS.le | exact LeS.add _ | (simp; done) | (simp; omega)) _) | (with_reducible refine Ext.setCell ?_ (by first | exact LeS.le | exact LeS.add _ | (simp; done) | (simp; omega)) _)))) (H4.out.up (by repeat (first | (with_reducible exact Ext.refl _) | (with_reducible refine Ext.up ?_ _) | (with_reducible refine Ext.alloc ?_ _) | (with_reducible refine Ext.drew ?_) | (with_reducible refine Ext.setRow ?_ (by first | exact LeS.le | exact LeS.add _ | (simp; done) | (simp; omega)) _) | (with_reducible refine Ext.setCell ?_ (by first | exact LeS.le | exact LeS.add _ | (simp; done) | (simp; omega)) _)))) (H5.out.up (by repeat (first | (with_reducible exact Ext.refl _) | (with_reducible refine Ext.up ?_ _) | (with_reducible refine Ext.alloc ?_ _) | (with_reducible refine Ext.drew ?_) | (with_reducible refine Ext.setRow ?_ (by first | exact LeS.le | exact LeS.add _ | (simp; done) | (simp; omega)) _) | (with_reducible refine Ext.setCell ?_ (by first | exact LeS.le | exact LeS.add _ | (simp; done) | (simp; omega)) _))))).mono ?_; rintro e w' ⟨rfl, z2, rfl⟩
  go_wp2_with fail
  go_ret
  exact ⟨rfl, (.of (by repeat (first | (with_reducible exact Ext.refl _) | (with_reducible refine Ext.up ?_ _) | (with_reducible refine Ext.alloc ?_ _) | (with_reducible refine Ext.drew ?_) | (with_reducible refine Ext.setRow ?_ (by first | exact LeS.le | exact LeS.add _ | (simp; done) | (simp; omega)) _) | (with_reducible refine Ext.setCell ?_ (by first | exact LeS.le | exact LeS.add _ | (simp; done) | (simp; omega)) _))))⟩
set_option maxRecDepth 100000 in
set_option maxHeartbeats 2000000 in
theorem eqSlotS_same (l : List Slt) (v v' : Value) (w : World) (h : SS w v l) (h' : SS w v' l) :
    Calls Try.prog 122 #[v, v'] w fun e w' => e = .returned (.bool true) ∧ Up w w' := by
  obtain ⟨a, cap, rfl, hlen, hc⟩ := h.open
  obtain ⟨a', cap', rfl, _, hc'⟩ := h'.open
  have HC := Lib.hid hc; have HC' := Lib.hid hc'
  clear h h' hc hc'
  go_enter Try.func122, Try.ntmps122
  go_wp2_with fail
  go_loopw [5] (fun s5 wr => ∃ (k : Nat), s5 = .int .i64 k ∧ k ≤ l.length ∧ Up w wr) (fun s5 _ => l.length - (intOf s5).toNat)
  case atStart => exact ⟨0, rfl, Nat.zero_le _, .of (Ext.refl _)⟩
  case round =>
    obtain ⟨k, rfl, hk, ⟨z, rfl⟩⟩ := hrel
    by_cases hlt : k < l.length
    · obtain ⟨t, ht⟩ := getElem?_some_of_lt hlt
      obtain ⟨b, off, q0, d0, q1, d1, q2, d2, rfl, hb, ⟨e0, e1, e2, e3, e4, e5⟩, s0, s1, s2⟩ := HC.out k t ht
      obtain ⟨b', off', q3, d3, q4, d4, q5, d5, rfl, hb', ⟨f0, f1, f2, f3, f4, f5⟩, s3, s4, s5⟩ := HC'.out k t ht
      have k0 : (0 : Int) ≤ (k : Int) := by omega
      have k1 : (k : Int) < l.length := by omega
      have S0 := Lib.hid s0; have S1 := Lib.hid s1; have S2 := Lib.hid s2; have S3 := Lib.hid s3; have S4 := Lib.hid s4; have S5 := Lib.hid s5
      clear ht s0 s1 s2 s3 s4 s5
      go_wp2_with fail
      (refine wp_region_up (by kernel_rfl) (by kernel_rfl) ?_; (repeat (go_big_quiet_step ((go_at_call 162; exact Calls.up (eqSlot_same t _ _ _ _ _ _ _ (S0.out.up (by repeat (first | (with_reducible exact Ext.refl _) | (with_reducible refine Ext.up ?_ _) | (with_reducible refine Ext.alloc ?_ _) | (with_reducible refine Ext.drew ?_) | (with_reducible refine Ext.setRow ?_ (by first | exact LeS.le | exact LeS.add _ | (simp; done) | (simp; omega)) _) | (with_reducible refine Ext.setCell ?_ (by first | exact LeS.le | exact LeS.add _ | (simp; done) | (simp; omega)) _)))) (S1.out.up (by repeat (first | (with_reducible exact Ext.refl _) | (with_reducible refine Ext.up ?_ _) | (with_reducible refine Ext.alloc ?_ _) | (with_reducible refine Ext.drew ?_) | (with_reducible refine Ext.setRow ?_ (by first | exact LeS.le | exact LeS.add _ | (simp; done) | (simp; omega)) _) | (with_reducible refine Ext.setCell ?_ (by first | exact LeS.le | exact LeS.add _ | (simp; done) | (simp; omega)) _)))) (S2.out.up (by repeat (first | (with_reducible exact Ext.refl _) | (with_reducible refine Ext.up ?_ _) | (with_reducible refine Ext.alloc ?_ _) | (with_reducible refine Ext.drew ?_) | (with_reducible refine Ext.setRow ?_ (by first | exact LeS.le | exact LeS.add _ | (simp; done) | (simp; omega)) _) | (with_reducible refine Ext.setCell ?_ (by first | exact LeS.le | exact LeS.add _ | (simp; done) | (simp; omega)) _)))) (S3.out.up (by repeat (first | (with_reducible exact Ext.refl _) | (with_reducible refine Ext.up ?_ _) | (with_reducible refine Ext.alloc ?_ _) | (with_reducible refine Ext.drew ?_) | (with_reducible refine Ext.setRow ?_ (by first | exact LeS.le | exact LeS.add _ | (simp; done) | (simp; omega)) _) | (with_reducible refine Ext.setCell ?_ (by first | exact LeS.le | exact LeS.add _ | (simp; done) | (simp; omega)) _)))) (S4.out.up (by repeat (first | (with_reducible exact Ext.refl _) | (with_reducible refine Ext.up ?_ _) | (with_reducible refine Ext.alloc ?_ _) | (with_reducible refine Ext.drew ?_) | (with_reducible refine Ext.setRow ?_ (by first | exact LeS.le | exact LeS.add _ | (simp; done) | (simp; omega)) _) | (with_reducible refine Ext.setCell ?_ (by first | exact LeS.le | exact LeS.add _ | (simp; done) | (simp; omega)) _)))) (S5.out.up (by repeat (first | (with_reducible exact Ext.refl _) | (with_reducible refine Ext.up ?_ _) | (with_reducible refine Ext.alloc ?_ _) | (with_reducible refine Ext.drew ?_) | (with_reducible refine Ext.setRow ?_ (by first | exact LeS.le | exact LeS.add _ | (simp; done) | (simp; omega)) _) | (with_reducible refine Ext.setCell ?_ (by first | exact LeS.le | exact LeS.add _ | (simp; done) | (simp; omega)) _))))))))); refine wpQuiet_nil ?_; intro _ hw'; obtain ⟨zq, hw''⟩ := hw'; subst hw'')
      go_wp2_with fail
      go_roundw
      case rel => exact ⟨k + 1, by go_num, by omega, (.of (by repeat (first | (with_reducible exact Ext.refl _) | (with_reducible refine Ext.up ?_ _) | (with_reducible refine Ext.alloc ?_ _) | (with_reducible refine Ext.drew ?_) | (with_reducible refine Ext.setRow ?_ (by first | exact LeS.le | exact LeS.add _ | (simp; done) | (simp; omega)) _) | (with_reducible refine Ext.setCell ?_ (by first | exact LeS.le | exact LeS.add _ | (simp; done) | (simp; omega)) _))))⟩
      case measure => simp [intOf]; omega
    · go_wp2_with fail
      go_ret
      exact ⟨rfl, z, rfl⟩
set_option maxHeartbeats 1000000 in
theorem eqEngine_same (g : Eng) (v0 v1 v2 v3 u0 u1 u2 u3 : Value) (w : World) (h : SG w v0 v1 v2 v3 g) (h' : SG w u0 u1 u2 u3 g) :
    Calls Try.prog 52 #[.agg #[v0, v1, v2, v3], .agg #[u0, u1, u2, u3]] w fun e w' => e = .returned (.bool true) ∧ Up w w' := by
  have HG := Lib.hid h; have HG' := Lib.hid h'
  obtain ⟨p0, c0, rfl, _, _⟩ := h.base.openc
  obtain ⟨p1, c1, rfl, _, _⟩ := h.acts.openc
  obtain ⟨p2, c2, rfl, _, _⟩ := h.vers.openc
  obtain ⟨p3, c3, rfl, _, -⟩ := h.sl.open
  obtain ⟨q0, d0, rfl, _, _⟩ := h'.base.openc
  obtain ⟨q1, d1, rfl, _, _⟩ := h'.acts.openc
  obtain ⟨q2, d2, rfl, _, _⟩ := h'.vers.openc
  obtain ⟨q3, d3, rfl, _, -⟩ := h'.sl.open
  clear h h'
  go_enter Try.func52, Try.ntmps52
  go_wp2_with fail
  refine (eqEntryS_same g.base _ _ _ (HG.out.base.up (by repeat (first | (with_reducible exact Ext.refl _) | (with_reducible refine Ext.up ?_ _) | (with_reducible refine Ext.alloc ?_ _) | (with_reducible refine Ext.drew ?_) | (with_reducible refine Ext.setRow ?_ (by first | exact LeS.le | exact LeS.add _ | (simp; done) | (simp; omega)) _) | (with_reducible refine Ext.setCell ?_ (by first | exact LeS.le | exact LeS.add _ | (simp; done) | (simp; omega)) _)))) (HG'.out.base.up (by repeat (first | (with_reducible exact Ext.refl _) | (with_reducible refine Ext.up ?_ _) | (with_reducible refine Ext.alloc ?_ _) | (with_reducible refine Ext.drew ?_) | (with_reducible refine Ext.setRow ?_ (by first | exact LeS.le | exact LeS.add _ | (simp; done) | (simp; omega)) _) | (with_reducible refine Ext.setCell ?_ (by first | exact LeS.le | exact LeS.add _ | (simp; done) | (simp; omega)) _))))).mono ?_; rintro e w' ⟨rfl, z1, rfl⟩
  go_wp2_with fail
  refine (eqActionS_same g.acts _ _ _ (HG.out.acts.up (by repeat (first | (with_reducible exact Ext.refl _) | (with_reducible refine Ext.up ?_ _) | (with_reducible refine Ext.alloc ?_ _) | (with_reducible refine Ext.drew ?_) | (with_reducible refine Ext.setRow ?_ (by first | exact LeS.le | exact LeS.add _ | (simp; done) | (simp; omega)) _) | (with_reducible refine Ext.setCell ?_ (by first | exact LeS.le | exact LeS.add _ | (simp; done) | (simp; omega)) _)))) (HG'.out.acts.up (by repeat (first | (with_reducible exact Ext.refl _) | (with_reducible refine Ext.up ?_ _) | (with_reducible refine Ext.alloc ?_ _) | (with_reducible refine Ext.drew ?_) | (with_reducible refine Ext.setRow ?_ (by first | exact LeS.le | exact LeS.add _ | (simp; done) | (simp; omega)) _) | (with_reducible refine Ext.setCell ?_ (by first | exact LeS.le | exact LeS.add _ | (simp; done) | (simp; omega)) _))))).mono ?_; rintro e w' ⟨rfl, z2, rfl⟩
  go_wp2_with fail
  refine (eqVersionS_same g.vers _ _ _ (HG.out.vers.up (by repeat (first | (with_reducible exact Ext.refl _) | (with_reducible refine Ext.up ?_ _) | (with_reducible refine Ext.alloc ?_ _) | (with_reducible refine Ext.drew ?_) | (with_reducible refine Ext.setRow ?_ (by first | exact LeS.le | exact LeS.add _ | (simp; done) | (simp; omega)) _) | (with_reducible refine Ext.setCell ?_ (by first | exact LeS.le | exact LeS.add _ | (simp; done) | (simp; omega)) _)))) (HG'.out.vers.up (by repeat (first | (with_reducible exact Ext.refl _) | (with_reducible refine Ext.up ?_ _) | (with_reducible refine Ext.alloc ?_ _) | (with_reducible refine Ext.drew ?_) | (with_reducible refine Ext.setRow ?_ (by first | exact LeS.le | exact LeS.add _ | (simp; done) | (simp; omega)) _) | (with_reducible refine Ext.setCell ?_ (by first | exact LeS.le | exact LeS.add _ | (simp; done) | (simp; omega)) _))))).mono ?_; rintro e w' ⟨rfl, z3, rfl⟩
  go_wp2_with fail
  refine (eqSlotS_same g.sl _ _ _ (HG.out.sl.up (by repeat (first | (with_reducible exact Ext.refl _) | (with_reducible refine Ext.up ?_ _) | (with_reducible refine Ext.alloc ?_ _) | (with_reducible refine Ext.drew ?_) | (with_reducible refine Ext.setRow ?_ (by first | exact LeS.le | exact LeS.add _ | (simp; done) | (simp; omega)) _) | (with_reducible refine Ext.setCell ?_ (by first | exact LeS.le | exact LeS.add _ | (simp; done) | (simp; omega)) _)))) (HG'.out.sl.up (by repeat (first | (with_reducible exact Ext.refl _) | (with_reducible refine Ext.up ?_ _) | (with_reducible refine Ext.alloc ?_ _) | (with_reducible refine Ext.drew ?_) | (with_reducible refine Ext.setRow ?_ (by first | exact LeS.le | exact LeS.add _ | (simp; done) | (simp; omega)) _) | (with_reducible refine Ext.setCell ?_ (by first | exact LeS.le | exact LeS.add _ | (simp; done) | (simp; omega)) _))))).mono ?_; rintro e w' ⟨rfl, z4, rfl⟩
  go_wp2_with fail
  go_ret
  exact ⟨rfl, (.of (by repeat (first | (with_reducible exact Ext.refl _) | (with_reducible refine Ext.up ?_ _) | (with_reducible refine Ext.alloc ?_ _) | (with_reducible refine Ext.drew ?_) | (with_reducible refine Ext.setRow ?_ (by first | exact LeS.le | exact LeS.add _ | (simp; done) | (simp; omega)) _) | (with_reducible refine Ext.setCell ?_ (by first | exact LeS.le | exact LeS.add _ | (simp; done) | (simp; omega)) _))))⟩
end Go.Proofs.Ytkboefmkfpnpjaa
