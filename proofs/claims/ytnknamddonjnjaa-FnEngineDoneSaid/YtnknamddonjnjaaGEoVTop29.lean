/- Walks: engines, the reference's side: a step. -/
import Derived.Test.YtnknamddonjnjaaGEoVTop26
import Derived.Test.YtnknamddonjnjaaGEoVTop20
import Derived.Test.YtnknamddonjnjaaGEoVTop27
import Derived.Test.YtnknamddonjnjaaGEoVTop28
set_option linter.unusedSimpArgs false
set_option linter.unusedVariables false
namespace Go.Proofs.Ytnknamddonjnjaa
open Go Go.RowKit Go.Proofs

/-- What the tried action's operations yield. -/
def tryG (e : Eng) (x : Actn) (m lo B ba oa : Nat) (A0 A1 A2 : Value) (j : Nat) (v : Value) (W : World) : Prop := match j with
  | 0 => v = .pointer (some ⟨B, 0, none⟩)
  | 1 => v = A0
  | 2 => v = .pointer (some ⟨B, 1, none⟩)
  | 3 => v = A1
  | 4 => v = .int .i64 (m : Int)
  | 5 => v = .pointer (some ⟨ba, oa + m * 4, none⟩)
  | 6 => v = .agg #[.int .i64 x.kind, .int .i64 x.src, .int .i64 x.dst, .int .i64 x.amt]
  | 7 => v = .pointer (some ⟨B, 2, none⟩)
  | 8 => v = A2
  | 9 => v = .int .i64 (m : Int)
  | 10 => ∃ qr dr qw dw qf df, v = .tuple #[.agg #[.bool (tryE e.base e.vers m x).d, .slice qr (tryE e.base e.vers m x).r.length dr, .slice qw (tryE e.base e.vers m x).w.length dw], .slice qf (nowF e.base e.vers m x.rk).length df] ∧ Own encI 3 1 lo W (.slice qf (nowF e.base e.vers m x.rk).length df) (nowF e.base e.vers m x.rk) ∧ Own Ent.enc 59 2 lo W (.slice qr (tryE e.base e.vers m x).r.length dr) (tryE e.base e.vers m x).r ∧ Own Ent.enc 59 2 lo W (.slice qw (tryE e.base e.vers m x).w.length dw) (tryE e.base e.vers m x).w ∧ Apart (.slice qr (tryE e.base e.vers m x).r.length dr) (.slice qw (tryE e.base e.vers m x).w.length dw)
  | 11 => ∃ qr dr qw dw qf df, v = .tuple #[.agg #[.bool (tryE e.base e.vers m x).d, .slice qr (tryE e.base e.vers m x).r.length dr, .slice qw (tryE e.base e.vers m x).w.length dw], .slice qf (nowF e.base e.vers m x.rk).length df] ∧ Own encI 3 1 lo W (.slice qf (nowF e.base e.vers m x.rk).length df) (nowF e.base e.vers m x.rk) ∧ Own Ent.enc 59 2 lo W (.slice qr (tryE e.base e.vers m x).r.length dr) (tryE e.base e.vers m x).r ∧ Own Ent.enc 59 2 lo W (.slice qw (tryE e.base e.vers m x).w.length dw) (tryE e.base e.vers m x).w ∧ Apart (.slice qr (tryE e.base e.vers m x).r.length dr) (.slice qw (tryE e.base e.vers m x).w.length dw)
  | 12 => ∃ qr dr qw dw, v = .agg #[.bool (tryE e.base e.vers m x).d, .slice qr (tryE e.base e.vers m x).r.length dr, .slice qw (tryE e.base e.vers m x).w.length dw] ∧ Own Ent.enc 59 2 lo W (.slice qr (tryE e.base e.vers m x).r.length dr) (tryE e.base e.vers m x).r ∧ Own Ent.enc 59 2 lo W (.slice qw (tryE e.base e.vers m x).w.length dw) (tryE e.base e.vers m x).w ∧ Apart (.slice qr (tryE e.base e.vers m x).r.length dr) (.slice qw (tryE e.base e.vers m x).w.length dw)
  | 13 => ∃ qf df, v = .slice qf (nowF e.base e.vers m x.rk).length df ∧ Own encI 3 1 lo W (.slice qf (nowF e.base e.vers m x.rk).length df) (nowF e.base e.vers m x.rk)
  | 14 => ∃ F, v = .pointer (some ⟨F, 0, none⟩) ∧ lo ≤ F ∧ ∃ c0 c1 c2 : Value, W.heap[F]? = some (.cells #[c0, c1, c2] 37 (0, 0))
  | _ => True
theorem tryG_up (e : Eng) (x : Actn) (m lo B ba oa : Nat) (A0 A1 A2 : Value) : ∀ (j : Nat) (v : Value) (w w' : World), Ext w w' → tryG e x m lo B ba oa A0 A1 A2 j v w → tryG e x m lo B ba oa A0 A1 A2 j v w' := by
  intro j v w w' hE h
  unfold tryG at h ⊢
  split at h
  case h_11 => obtain ⟨qr, dr, qw, dw, qf, df, h1, h2, h3, h4, h5⟩ := h; exact ⟨qr, dr, qw, dw, qf, df, h1, h2.up hE, h3.up hE, h4.up hE, h5⟩
  case h_12 => obtain ⟨qr, dr, qw, dw, qf, df, h1, h2, h3, h4, h5⟩ := h; exact ⟨qr, dr, qw, dw, qf, df, h1, h2.up hE, h3.up hE, h4.up hE, h5⟩
  case h_13 => obtain ⟨qr, dr, qw, dw, h1, h2, h3, h4⟩ := h; exact ⟨qr, dr, qw, dw, h1, h2.up hE, h3.up hE, h4⟩
  case h_14 => obtain ⟨qf, df, h1, h2⟩ := h; exact ⟨qf, df, h1, h2.up hE⟩
  case h_15 => obtain ⟨g, h1, h2, c0, c1, c2, h3⟩ := h; exact ⟨g, h1, h2, c0, c1, c2, row_up hE h3⟩
  all_goals exact h
/-- The effect, stored. -/
def tryS (e : Eng) (x : Actn) (m lo : Nat) (j : Nat) (X : Nat → Value) (W : World) : Prop := match j with
  | 15 => ∃ F qr dr qw dw, X 8 = .pointer (some ⟨F, 0, none⟩) ∧ X 45 = .agg #[.bool (tryE e.base e.vers m x).d, .slice qr (tryE e.base e.vers m x).r.length dr, .slice qw (tryE e.base e.vers m x).w.length dw] ∧ lo ≤ F ∧ W.heap[F]? = some (.cells #[.bool (tryE e.base e.vers m x).d, .slice qr (tryE e.base e.vers m x).r.length dr, .slice qw (tryE e.base e.vers m x).w.length dw] 37 (0, 0))
  | _ => True
theorem tryS_at (e : Eng) (x : Actn) (m lo : Nat) {Dl : List (Option Nat)} {Al : List (List Nat)} (hd : ∀ {X X' : Nat → Value}, (∀ k ∈ (Al[15]?).getD [], ∀ d', Dl[k]? = some (some d') → X d' = X' d') → X 8 = X' 8 ∧ X 45 = X' 45) : ∀ (j : Nat) (X X' : Nat → Value) (w : World), (∀ k ∈ (Al[j]?).getD [], ∀ d', Dl[k]? = some (some d') → X d' = X' d') → tryS e x m lo j X w → tryS e x m lo j X' w := by
  intro j X X' w h hs
  unfold tryS at hs ⊢
  split at hs
  · obtain ⟨h8, h45⟩ := hd h
    rw [← h8, ← h45]; exact hs
  · trivial
theorem tryS_up (e : Eng) (x : Actn) (m lo : Nat) : ∀ (j : Nat) (X : Nat → Value) (w w' : World), Ext w w' → tryS e x m lo j X w → tryS e x m lo j X w' := by
  intro j X w w' hE h
  unfold tryS at h ⊢
  split at h
  · obtain ⟨F, qr, dr, qw, dw, h1, h2, h3, h4⟩ := h; exact ⟨F, qr, dr, qw, dw, h1, h2, h3, row_up hE h4⟩
  · trivial
/-- A store into an effect's block. -/
theorem tryG_set {e : Eng} {x : Actn} {m lo B ba oa : Nat} {A0 A1 A2 : Value} {W : World} {F : Nat} {c0 c1 c2 : Value} (hF : W.heap[F]? = some (.cells #[c0, c1, c2] 37 (0, 0))) (u0 u1 u2 : Value) (j : Nat) (v : Value) (h : tryG e x m lo B ba oa A0 A1 A2 j v W) : tryG e x m lo B ba oa A0 A1 A2 j v (((W.setCell ⟨F, 0, none⟩ u0).setCell ⟨F, 1, none⟩ u1).setCell ⟨F, 2, none⟩ u2) := by
  have ke : ∀ {q : Option Addr} {n d : Nat} {l : List Ent}, Own Ent.enc 59 2 lo W (.slice q n d) l → Own Ent.enc 59 2 lo (((W.setCell ⟨F, 0, none⟩ u0).setCell ⟨F, 1, none⟩ u1).setCell ⟨F, 2, none⟩ u2) (.slice q n d) l := fun o => by
    have n1 := o.ne_type hF (by decide)
    exact ((o.setApart 0 _ (.inr n1)).setApart 1 _ (.inr n1)).setApart 2 _ (.inr n1)
  have ki : ∀ {q : Option Addr} {n d : Nat} {l : List Int}, Own encI 3 1 lo W (.slice q n d) l → Own encI 3 1 lo (((W.setCell ⟨F, 0, none⟩ u0).setCell ⟨F, 1, none⟩ u1).setCell ⟨F, 2, none⟩ u2) (.slice q n d) l := fun o => by
    have n1 := o.ne_type hF (by decide)
    exact ((o.setApart 0 _ (.inr n1)).setApart 1 _ (.inr n1)).setApart 2 _ (.inr n1)
  have hR := (heap_setCell_same _ _ 2 _ _ u2 ((heap_setCell_same _ _ 1 _ _ u1 ((heap_setCell_same _ _ 0 _ _ u0 hF).trans rfl)).trans rfl)).trans rfl
  unfold tryG at h ⊢
  split at h
  case h_11 => obtain ⟨qr, dr, qw, dw, qf, df, h1, h2, h3, h4, h5⟩ := h; exact ⟨qr, dr, qw, dw, qf, df, h1, ki h2, ke h3, ke h4, h5⟩
  case h_12 => obtain ⟨qr, dr, qw, dw, qf, df, h1, h2, h3, h4, h5⟩ := h; exact ⟨qr, dr, qw, dw, qf, df, h1, ki h2, ke h3, ke h4, h5⟩
  case h_13 => obtain ⟨qr, dr, qw, dw, h1, h2, h3, h4⟩ := h; exact ⟨qr, dr, qw, dw, h1, ke h2, ke h3, h4⟩
  case h_14 => obtain ⟨qf, df, h1, h2⟩ := h; exact ⟨qf, df, h1, ki h2⟩
  case h_15 =>
    obtain ⟨g, h1, h2, d0, d1, d2, h3⟩ := h
    by_cases hg : g = F
    · subst hg; exact ⟨g, h1, h2, _, _, _, hR⟩
    · exact ⟨g, h1, h2, d0, d1, d2, (Below.heap_setCell _ _ _ _ hg).trans ((Below.heap_setCell _ _ _ _ hg).trans ((Below.heap_setCell _ _ _ _ hg).trans h3))⟩
  all_goals exact h
set_option maxRecDepth 100000 in
set_option maxHeartbeats 8000000 in
theorem stepE_any (e : Eng) (v0 v1 v2 v3 : Value) (n : Int) (w : World) (h : SG w v0 v1 v2 v3 e) (hI : e.Inv) :
    Calls Try.prog 61 #[.agg #[v0, v1, v2, v3], .int .i64 n] w fun ed w' => ∃ u0 u1 u2 u3 ts, ed = .returned (.tuple #[.agg #[u0, u1, u2, u3], .bool (e.step n).2]) ∧ Up w w' ∧ ts.map TS.core = (e.step n).1.sl ∧ OEX w.heap.size w' u0 u1 u2 u3 (e.step n).1.base (e.step n).1.acts (e.step n).1.vers ts := by
  obtain ⟨n0, n1, n2, n3, n4⟩ := hI.parts
  have h10 := hI.len10
  have HG := Lib.hid h; have HI := Lib.hid hI; have H4 := Lib.hid n4
  obtain ⟨p0, c0, rfl, _, _⟩ := h.base.openc
  obtain ⟨p1, c1, rfl, _, _⟩ := h.acts.openc
  obtain ⟨p2, c2, rfl, _, _⟩ := h.vers.openc
  obtain ⟨p3, c3, rfl, _, hcs⟩ := h.sl.open
  have HCS := Lib.hid hcs
  clear h hcs n4 hI
  go_enter Try.func61, Try.ntmps61
  go_wp2_with fail
  refine (copyE_any e _ _ _ _ _ (HG.out.up (by repeat (first | (with_reducible exact Ext.refl _) | (with_reducible refine Ext.up ?_ _) | (with_reducible refine Ext.alloc ?_ _) | (with_reducible refine Ext.drew ?_) | (with_reducible refine Ext.setRow ?_ (by first | exact LeS.le | exact LeS.add _ | (simp; done) | (simp; omega)) _) | (with_reducible refine Ext.setCell ?_ (by first | exact LeS.le | exact LeS.add _ | (simp; done) | (simp; omega)) _)))) n0 n1 n2 n3 H4.out).mono ?_; rintro ed w' ⟨u0, u1, u2, u3, ts, rfl, ⟨z1, rfl⟩, hts, ho⟩
  obtain ⟨q0, d0, rfl, _, _⟩ := (ho.g.base.sl Ent.enc_length).openc
  obtain ⟨q1, d1, rfl, _, _⟩ := (ho.g.acts.sl Actn.enc_length).openc
  obtain ⟨q2, d2, rfl, _, _⟩ := (ho.g.vers.sl Ver.enc_length).openc
  obtain ⟨q3, d3, rfl, _, _⟩ := (ho.g.sl.row.sl TS.enc_length).openc
  have HO := Lib.hid ho; have HT := Lib.hid hts
  have hz1 := z1.ext.size
  simp at hz1
  clear ho hts
  have cR0 : z1.val.cell? ⟨w.heap.size + 1, 0, none⟩ = some (.slice none 0 0) := by go_simp
  have cR1 : z1.val.cell? ⟨w.heap.size + 1, 1, none⟩ = some (.slice none 0 0) := by go_simp
  have cR2 : z1.val.cell? ⟨w.heap.size + 1, 2, none⟩ = some (.slice none 0 0) := by go_simp
  have cR3 : z1.val.cell? ⟨w.heap.size + 1, 3, none⟩ = some (.slice none 0 0) := by go_simp
  have hLR : LtS (w.heap.size + 1) z1.val := ⟨by omega⟩
  by_cases hr : 0 ≤ n ∧ n ≤ (e.sl.length : Int) - 1
  case neg =>
    have hst := Eng.step_out (e := e) (n := n) (by omega)
    have hin : inR n 0 ((e.sl.length : Int) - 1) = false := by rw [← Bool.not_eq_true, inR_iff]; exact hr
    clear hr
    go_wp2_with ((go_at_call 49; refine (l1In_any _ _ _ _).mono ?_; rintro e w' ⟨rfl, rfl⟩))
    refine bodyPost_ret (v := .tuple #[.agg #[.slice q0 e.base.length d0, .slice q1 e.acts.length d1, .slice q2 e.vers.length d2, .slice q3 ts.length d3], .bool false]) (by simp [results, Try.results61, go_sem, cR0, cR1, cR2, cR3]) rfl ?_
    refine ⟨_, _, _, _, ts, by rw [hst], .of ?_, by rw [hst]; exact HT.out, ?_⟩
    · repeat (first | (with_reducible exact (Ext.refl _)) | (with_reducible exact z1.ext) | (with_reducible refine Ext.setCell ?_ (by first | exact Nat.le_succ _ | omega | (simp; omega)) _) | (with_reducible refine Ext.up ?_ _) | (with_reducible refine Ext.alloc ?_ _))
    · rw [hst]
      refine OEX.lo (lo := w.heap.size + 1 + 1) ?_ (by omega)
      repeat (first | (with_reducible exact HO.out) | (exact HO.out.lo (by simp)) | (refine OEX.setOld ?_ _ _ (by show w.heap.size + 1 < _; omega)) | (with_reducible refine OEX.up ?_ ((Ext.refl _).alloc _)) | (with_reducible refine OEX.up ?_ (Extd.ext _)))
  obtain ⟨m, rfl⟩ : ∃ m : Nat, n = m := ⟨n.toNat, by omega⟩
  obtain ⟨t, ht⟩ := getElem?_some_of_lt (l := e.sl) (k := m) (by omega)
  obtain ⟨x, hx⟩ := getElem?_some_of_lt (l := e.acts) (k := m) (by have := HI.out.len; omega)
  have hin : inR (m : Int) 0 ((e.sl.length : Int) - 1) = true := by rw [inR_iff]; omega
  have hst := Eng.step_in ht hx
  obtain ⟨b, off, pf, cf, pr, cr, pw, cw, rfl, hb, ⟨e0, e1, e2, e3, e4, e5⟩, sf, sr, sw⟩ := HCS.out m t ht
  have k0 : (0 : Int) ≤ (m : Int) := by omega
  have k1 : (m : Int) < e.sl.length := by omega
  have hTl : ts.length = e.sl.length := by rw [← List.length_map (f := TS.core), HT.out]
  obtain ⟨tx, htx⟩ := getElem?_some_of_lt (l := ts) (k := m) (by omega)
  have htc : tx.core = t := by
    have h9 := HT.out
    have h8 : (ts.map TS.core)[m]? = some tx.core := by rw [List.getElem?_map, htx]; rfl
    rw [h9, ht] at h8
    exact (Option.some.injEq _ _ ▸ h8).symm
  have k2 : (m : Int) < ts.length := by omega
  have hne : ts ≠ [] := List.ne_nil_of_length_pos (by omega)
  have HTl := Lib.hid hTl
  clear hTl
  obtain ⟨g, c9, e9, hgl⟩ := HO.out.g.sl.at hne
  simp only [Value.slice.injEq] at e9
  obtain ⟨rfl, -, -⟩ := e9
  simp at hgl
  obtain ⟨hLg, y0, y1, y2, y3, y4, y5, f0, f1, f2, f3, f4, f5⟩ := HO.out.g.sl.row.cells6 htx
  have hgz := hLg.lt
  have hsl := Lib.hid (HI.out.slot ht hx)
  have HT0 := Lib.hid ht; have HX0 := Lib.hid hx; have htx := Lib.hid htx
  clear sf sr sw ht hx hr
  by_cases s0 : t.st = 0
  · by_cases htr : t.tr = 1000
    · have hst : e.step m = (e, false) := by rw [hst]; unfold Eng.stepAt; rw [if_pos s0, if_pos htr]
      rw [s0] at e0; rw [htr] at e1
      go_wp2_with ((go_at_call 49; refine (l1In_any _ _ _ _).mono ?_; rintro e w' ⟨rfl, rfl⟩))
      refine bodyPost_ret (v := .tuple #[.agg #[.slice q0 e.base.length d0, .slice q1 e.acts.length d1, .slice q2 e.vers.length d2, .slice (some ⟨g, 0, none⟩) ts.length d3], .bool false]) (by simp [results, Try.results61, go_sem, cR0, cR1, cR2, cR3]) rfl ?_
      refine ⟨_, _, _, _, ts, by rw [hst], .of ?_, by rw [hst]; exact HT.out, ?_⟩
      · repeat (first | (with_reducible exact (Ext.refl _)) | (with_reducible exact z1.ext) | (with_reducible refine Ext.setCell ?_ (by first | exact Nat.le_succ _ | omega | (simp; omega)) _) | (with_reducible refine Ext.up ?_ _) | (with_reducible refine Ext.alloc ?_ _))
      · rw [hst]
        refine OEX.lo (lo := w.heap.size + 1 + 1) ?_ (by omega)
        repeat (first | (with_reducible exact HO.out) | (exact HO.out.lo (by simp)) | (refine OEX.setOld ?_ _ _ (by show w.heap.size + 1 < _; omega)) | (with_reducible refine OEX.up ?_ ((Ext.refl _).alloc _)) | (with_reducible refine OEX.up ?_ (Extd.ext _)))
    · have hst : e.step m = (⟨e.base, e.acts, putV e.vers m (tryE e.base e.vers m x).w, e.sl.set m ⟨1, t.tr + 1, nowF e.base e.vers m x.rk, tryE e.base e.vers m x⟩⟩, true) := by rw [hst]; unfold Eng.stepAt; rw [if_pos s0, if_neg htr]
      have hp9 := Eng.Inv.tried HI.out HT0.out HX0.out s0 htr
      have htr2 : 0 ≤ t.tr ∧ t.tr ≤ 1000 := by
        have := hsl.out
        unfold sltOk at this
        rw [if_pos s0] at this
        simp only [sltNew, Bool.and_eq_true, inR_iff] at this
        exact this.1
      have hwl : (tryE e.base e.vers m x).w.length ≤ 1000 := (hp9.parts.2.2.2.2 _ (List.mem_of_getElem? (List.getElem?_set_self (by omega)))).2.2
      rw [s0] at e0
      have hxo := Lib.hid (HI.out.act HX0.out); have hbo := Lib.hid HI.out.base; have hvo := Lib.hid HI.out.vok.1
      obtain ⟨_, _, ea, _, hca⟩ := HG.out.acts.open
      cases ea
      obtain ⟨ba, oa, rfl, hba, hcc⟩ := hca m x HX0.out
      have a0 := hcc 0 _ rfl; have a1 := hcc 1 _ rfl; have a2 := hcc 2 _ rfl; have a3 := hcc 3 _ rfl
      simp only [Nat.add_zero] at a0 a1 a2 a3
      have k3 : (m : Int) < e.acts.length := by have := HI.out.len; omega
      have hbt : (t.tr == 1000) = false := by simpa using htr
      clear hp9 hca hcc
      go_upto_region 9 with ((go_at_call 49; refine (l1In_any _ _ _ _).mono ?_; rintro e w' ⟨rfl, rfl⟩))
      refine wp_region_held_drew (S := fun _ => True) (by kernel_rfl) trivial (fun _ => ?_)
      refine region_invX 16 17 [some 34, some 35, some 36, some 37, some 38, some 39, some 40, some 41, some 42, some 43, some 44, some 33, some 45, some 46, some 8, none, some 9] [[], [0], [], [2], [], [3, 4], [5], [], [7], [], [1, 6, 8, 9], [10], [11], [11], [], [14, 12, 10, 0, 1, 2, 3, 4, 5, 6, 7, 8, 9, 10, 11, 12, 14], [13, 15, 0, 1, 2, 3, 4, 5, 6, 7, 8, 9, 10, 11, 12, 13, 14, 15]] [34, 35, 36, 37, 38, 39, 40, 41, 42, 43, 44, 33, 45, 46, 8] (tryG e x m (z1.val.heap.size + 1 + 1) w.heap.size ba oa (.slice p0 e.base.length c0) (.slice (some ⟨ba, oa, none⟩) e.acts.length c1) (.slice p2 e.vers.length c2)) (tryS e x m (z1.val.heap.size + 1 + 1)) (fun a b => Ext (((z1.val.alloc (.cells #[.slice q0 e.base.length d0, .slice q1 e.acts.length d1, .slice q2 e.vers.length d2, .slice (some ⟨g, 0, none⟩) ts.length d3] 28)).alloc (.cells #[.int .i64 0, .int .i64 t.tr, .slice pf t.f.length cf, .bool t.e.d, .slice pr t.e.r.length cr, .slice pw t.e.w.length cw] 39)).drew) a → Ext (((z1.val.alloc (.cells #[.slice q0 e.base.length d0, .slice q1 e.acts.length d1, .slice q2 e.vers.length d2, .slice (some ⟨g, 0, none⟩) ts.length d3] 28)).alloc (.cells #[.int .i64 0, .int .i64 t.tr, .slice pf t.f.length cf, .bool t.e.d, .slice pr t.e.r.length cr, .slice pw t.e.w.length cw] 39)).drew) b) (fun _ _ => True) (((z1.val.alloc (.cells #[.slice q0 e.base.length d0, .slice q1 e.acts.length d1, .slice q2 e.vers.length d2, .slice (some ⟨g, 0, none⟩) ts.length d3] 28)).alloc (.cells #[.int .i64 0, .int .i64 t.tr, .slice pf t.f.length cf, .bool t.e.d, .slice pr t.e.r.length cr, .slice pw t.e.w.length cw] 39)).drew) _ (by kernel_rfl) (by kernel_rfl) (by kernel_rfl) (by kernel_rfl) (by rfl) (fun _ h => h) (fun _ _ _ h h2 h3 => h2 (h h3)) (tryS_at _ _ _ _ (fun h => ⟨h 14 (by decide) 8 rfl, h 12 (by decide) 45 rfl⟩)) ?_ ?_ trivial ?_
      · intro i o d ho hi hd X w9 hE mC hmC hW hdep K hK
        replace hE := hE (Ext.refl _)
        replace hK := fun (v : Value) (w' : World) (hx : Ext w9 w') hg => hK v w' (fun h => h.trans hx) trivial (fun j v' _ h => (tryG_up _ _ _ _ _ _ _ _ _ _) j v' _ _ hx h) (fun j X' _ h => (tryS_up _ _ _ _) j X' _ _ hx h) hg
        have hcase : i = 0 ∨ i = 1 ∨ i = 2 ∨ i = 3 ∨ i = 4 ∨ i = 5 ∨ i = 6 ∨ i = 7 ∨ i = 8 ∨ i = 9 ∨ i = 10 ∨ i = 11 ∨ i = 12 ∨ i = 13 ∨ i = 14 ∨ i = 15 := by omega
        rcases hcase with rfl | rfl | rfl | rfl | rfl | rfl | rfl | rfl | rfl | rfl | rfl | rfl | rfl | rfl | rfl | rfl
        · have ho := opAt_inv ho
          simp only [List.getElem?_cons_zero, List.getElem?_cons_succ, Option.some.injEq] at ho
          subst ho
          clear hdep hd
          simp only [putL, Act.put, List.setIfInBounds_toArray, List.set_cons_zero, List.set_cons_succ] at hK ⊢
          go_simp
          exact hK _ _ (Ext.refl _) rfl
        · have ho := opAt_inv ho
          simp only [List.getElem?_cons_zero, List.getElem?_cons_succ, Option.some.injEq] at ho
          subst ho
          have g0 := hdep 0 (by decide) 34 rfl
          clear hdep hd
          simp only [putL, Act.put, List.setIfInBounds_toArray, List.set_cons_zero, List.set_cons_succ] at hK ⊢
          obtain ⟨z9, rfl⟩ := Up.of hE
          rw [show X 34 = _ from g0] at hK ⊢
          go_simp
          exact hK _ _ (Ext.refl _) rfl
        · have ho := opAt_inv ho
          simp only [List.getElem?_cons_zero, List.getElem?_cons_succ, Option.some.injEq] at ho
          subst ho
          clear hdep hd
          simp only [putL, Act.put, List.setIfInBounds_toArray, List.set_cons_zero, List.set_cons_succ] at hK ⊢
          go_simp
          exact hK _ _ (Ext.refl _) rfl
        · have ho := opAt_inv ho
          simp only [List.getElem?_cons_zero, List.getElem?_cons_succ, Option.some.injEq] at ho
          subst ho
          have g2 := hdep 2 (by decide) 36 rfl
          clear hdep hd
          simp only [putL, Act.put, List.setIfInBounds_toArray, List.set_cons_zero, List.set_cons_succ] at hK ⊢
          obtain ⟨z9, rfl⟩ := Up.of hE
          rw [show X 36 = _ from g2] at hK ⊢
          go_simp
          exact hK _ _ (Ext.refl _) rfl
        · have ho := opAt_inv ho
          simp only [List.getElem?_cons_zero, List.getElem?_cons_succ, Option.some.injEq] at ho
          subst ho
          clear hdep hd
          simp only [putL, Act.put, List.setIfInBounds_toArray, List.set_cons_zero, List.set_cons_succ] at hK ⊢
          go_simp
          exact hK _ _ (Ext.refl _) rfl
        · have ho := opAt_inv ho
          simp only [List.getElem?_cons_zero, List.getElem?_cons_succ, Option.some.injEq] at ho
          subst ho
          have g3 := hdep 3 (by decide) 37 rfl
          have g4 := hdep 4 (by decide) 38 rfl
          clear hdep hd
          simp only [putL, Act.put, List.setIfInBounds_toArray, List.set_cons_zero, List.set_cons_succ] at hK ⊢
          rw [show X 37 = _ from g3] at hK ⊢
          rw [show X 38 = _ from g4] at hK ⊢
          go_simp
          exact hK _ _ (Ext.refl _) rfl
        · have ho := opAt_inv ho
          simp only [List.getElem?_cons_zero, List.getElem?_cons_succ, Option.some.injEq] at ho
          subst ho
          have g5 := hdep 5 (by decide) 39 rfl
          clear hdep hd
          simp only [putL, Act.put, List.setIfInBounds_toArray, List.set_cons_zero, List.set_cons_succ] at hK ⊢
          obtain ⟨z9, rfl⟩ := Up.of hE
          rw [show X 39 = _ from g5] at hK ⊢
          go_simp
          exact hK _ _ (Ext.refl _) rfl
        · have ho := opAt_inv ho
          simp only [List.getElem?_cons_zero, List.getElem?_cons_succ, Option.some.injEq] at ho
          subst ho
          clear hdep hd
          simp only [putL, Act.put, List.setIfInBounds_toArray, List.set_cons_zero, List.set_cons_succ] at hK ⊢
          go_simp
          exact hK _ _ (Ext.refl _) rfl
        · have ho := opAt_inv ho
          simp only [List.getElem?_cons_zero, List.getElem?_cons_succ, Option.some.injEq] at ho
          subst ho
          have g7 := hdep 7 (by decide) 41 rfl
          clear hdep hd
          simp only [putL, Act.put, List.setIfInBounds_toArray, List.set_cons_zero, List.set_cons_succ] at hK ⊢
          obtain ⟨z9, rfl⟩ := Up.of hE
          rw [show X 41 = _ from g7] at hK ⊢
          go_simp
          exact hK _ _ (Ext.refl _) rfl
        · have ho := opAt_inv ho
          simp only [List.getElem?_cons_zero, List.getElem?_cons_succ, Option.some.injEq] at ho
          subst ho
          clear hdep hd
          simp only [putL, Act.put, List.setIfInBounds_toArray, List.set_cons_zero, List.set_cons_succ] at hK ⊢
          go_simp
          exact hK _ _ (Ext.refl _) rfl
        · have ho := opAt_inv ho
          simp only [List.getElem?_cons_zero, List.getElem?_cons_succ, Option.some.injEq] at ho
          subst ho
          have g1 := hdep 1 (by decide) 35 rfl
          have g6 := hdep 6 (by decide) 40 rfl
          have g8 := hdep 8 (by decide) 42 rfl
          have g9 := hdep 9 (by decide) 43 rfl
          clear hdep hd
          simp only [putL, Act.put, List.setIfInBounds_toArray, List.set_cons_zero, List.set_cons_succ] at hK ⊢
          have hsz := hE.size
          simp at hsz
          rw [show X 35 = _ from g1] at hK ⊢
          rw [show X 40 = _ from g6] at hK ⊢
          rw [show X 42 = _ from g8] at hK ⊢
          rw [show X 43 = _ from g9] at hK ⊢
          go_simp
          go_at_call 82
          refine (sTry_any e.base e.vers x m _ _ _ (HG.out.base.up (Ext.trans (by repeat (first | (with_reducible exact Ext.refl _) | (with_reducible refine Ext.up ?_ _) | (with_reducible refine Ext.alloc ?_ _) | (with_reducible refine Ext.drew ?_) | (with_reducible refine Ext.setRow ?_ (by first | exact LeS.le | exact LeS.add _ | (simp; done) | (simp; omega)) _) | (with_reducible refine Ext.setCell ?_ (by first | exact LeS.le | exact LeS.add _ | (simp; done) | (simp; omega)) _))) hE)) (HG.out.vers.up (Ext.trans (by repeat (first | (with_reducible exact Ext.refl _) | (with_reducible refine Ext.up ?_ _) | (with_reducible refine Ext.alloc ?_ _) | (with_reducible refine Ext.drew ?_) | (with_reducible refine Ext.setRow ?_ (by first | exact LeS.le | exact LeS.add _ | (simp; done) | (simp; omega)) _) | (with_reducible refine Ext.setCell ?_ (by first | exact LeS.le | exact LeS.add _ | (simp; done) | (simp; omega)) _))) hE)) hxo.out hbo.out hvo.out).mono ?_
          rintro e' w' ⟨vr', vw', vf', rfl, ⟨z3, rfl⟩, o1, o2, o0, ap, -, -⟩
          obtain ⟨qr, dr, rfl, _, _⟩ := (o1.sl Ent.enc_length).openc
          obtain ⟨qw, dw, rfl, _, _⟩ := (o2.sl Ent.enc_length).openc
          obtain ⟨qf, df, rfl, _, _⟩ := (o0.sl encI_length).openc
          try go_wp2_with fail
          exact hK _ _ z3.ext ⟨qr, dr, qw, dw, qf, df, rfl, o0.lo (by omega), o1.lo (by omega), o2.lo (by omega), ap⟩
        · have ho := opAt_inv ho
          simp only [List.getElem?_cons_zero, List.getElem?_cons_succ, Option.some.injEq] at ho
          subst ho
          have g10 := hdep 10 (by decide) 44 rfl
          clear hdep hd
          simp only [putL, Act.put, List.setIfInBounds_toArray, List.set_cons_zero, List.set_cons_succ] at hK ⊢
          obtain ⟨qr, dr, qw, dw, qf, df, hv, ho⟩ := g10
          rw [show X 44 = _ from hv] at hK ⊢
          go_simp
          exact hK _ _ (Ext.refl _) ⟨qr, dr, qw, dw, qf, df, rfl, ho⟩
        · have ho := opAt_inv ho
          simp only [List.getElem?_cons_zero, List.getElem?_cons_succ, Option.some.injEq] at ho
          subst ho
          have g11 := hdep 11 (by decide) 33 rfl
          clear hdep hd
          simp only [putL, Act.put, List.setIfInBounds_toArray, List.set_cons_zero, List.set_cons_succ] at hK ⊢
          obtain ⟨qr, dr, qw, dw, qf, df, hv, ho0, ho⟩ := g11
          rw [show X 33 = _ from hv] at hK ⊢
          go_simp
          exact hK _ _ (Ext.refl _) ⟨qr, dr, qw, dw, rfl, ho⟩
        · have ho := opAt_inv ho
          simp only [List.getElem?_cons_zero, List.getElem?_cons_succ, Option.some.injEq] at ho
          subst ho
          have g11 := hdep 11 (by decide) 33 rfl
          clear hdep hd
          simp only [putL, Act.put, List.setIfInBounds_toArray, List.set_cons_zero, List.set_cons_succ] at hK ⊢
          obtain ⟨qr, dr, qw, dw, qf, df, hv, ho0, ho⟩ := g11
          rw [show X 33 = _ from hv] at hK ⊢
          go_simp
          exact hK _ _ (Ext.refl _) ⟨qf, df, rfl, ho0⟩
        · have ho := opAt_inv ho
          simp only [List.getElem?_cons_zero, List.getElem?_cons_succ, Option.some.injEq] at ho
          subst ho
          clear hdep hd
          simp only [putL, Act.put, List.setIfInBounds_toArray, List.set_cons_zero, List.set_cons_succ] at hK ⊢
          have hsz := hE.size
          simp at hsz
          go_simp
          exact hK _ _ ((Ext.refl _).alloc _) ⟨_, rfl, by omega, _, _, _, heap_alloc_new _ _⟩
        · cases hd
      · intro i o ho hi hd X w9 hE mC hmC hW hdep K hK
        replace hE := hE (Ext.refl _)
        have hcase : i = 0 ∨ i = 1 ∨ i = 2 ∨ i = 3 ∨ i = 4 ∨ i = 5 ∨ i = 6 ∨ i = 7 ∨ i = 8 ∨ i = 9 ∨ i = 10 ∨ i = 11 ∨ i = 12 ∨ i = 13 ∨ i = 14 ∨ i = 15 := by omega
        rcases hcase with rfl | rfl | rfl | rfl | rfl | rfl | rfl | rfl | rfl | rfl | rfl | rfl | rfl | rfl | rfl | rfl
        · cases hd
        · cases hd
        · cases hd
        · cases hd
        · cases hd
        · cases hd
        · cases hd
        · cases hd
        · cases hd
        · cases hd
        · cases hd
        · cases hd
        · cases hd
        · cases hd
        · cases hd
        · have ho := opAt_inv ho
          simp only [List.getElem?_cons_zero, List.getElem?_cons_succ, Option.some.injEq] at ho
          subst ho
          have g0 := hdep 0 (by decide) 34 rfl
          have g1 := hdep 1 (by decide) 35 rfl
          have g2 := hdep 2 (by decide) 36 rfl
          have g3 := hdep 3 (by decide) 37 rfl
          have g4 := hdep 4 (by decide) 38 rfl
          have g5 := hdep 5 (by decide) 39 rfl
          have g6 := hdep 6 (by decide) 40 rfl
          have g7 := hdep 7 (by decide) 41 rfl
          have g8 := hdep 8 (by decide) 42 rfl
          have g9 := hdep 9 (by decide) 43 rfl
          have g10 := hdep 10 (by decide) 44 rfl
          have g11 := hdep 11 (by decide) 33 rfl
          have g12 := hdep 12 (by decide) 45 rfl
          have g14 := hdep 14 (by decide) 8 rfl
          clear hdep hd
          simp only [putL, Act.put, List.setIfInBounds_toArray, List.set_cons_zero, List.set_cons_succ] at hK ⊢
          obtain ⟨F, hF, hlo, c0', c1', c2', hrow⟩ := g14
          obtain ⟨qr, dr, qw, dw, h12, -⟩ := g12
          obtain ⟨z9, rfl⟩ := Up.of hE
          have hG0 := cell_of_row _ _ 0 _ _ _ hrow
          have hF0 := frozen_of_row _ _ 0 _ _ hrow
          have hG1 := cell_of_row _ _ 1 _ _ _ hrow
          have hF1 := frozen_of_row _ _ 1 _ _ hrow
          have hG2 := cell_of_row _ _ 2 _ _ _ hrow
          have hF2 := frozen_of_row _ _ 2 _ _ hrow
          have hLF : LtS F z9.val := ⟨(Array.getElem?_eq_some_iff.1 hrow).1⟩
          have hR := (heap_setCell_same _ _ 2 _ _ (.slice qw (tryE e.base e.vers m x).w.length dw) ((heap_setCell_same _ _ 1 _ _ (.slice qr (tryE e.base e.vers m x).r.length dr) ((heap_setCell_same _ _ 0 _ _ (.bool (tryE e.base e.vers m x).d) hrow).trans rfl)).trans rfl)).trans rfl
          have hst9 := fun j v' (_ : j ≠ 15) h => tryG_set (e := e) (x := x) (m := m) (lo := z1.val.heap.size + 1 + 1) (B := w.heap.size) (ba := ba) (oa := oa) (A0 := .slice p0 e.base.length c0) (A1 := .slice (some ⟨ba, oa, none⟩) e.acts.length c1) (A2 := .slice p2 e.vers.length c2) hrow (.bool (tryE e.base e.vers m x).d) (.slice qr (tryE e.base e.vers m x).r.length dr) (.slice qw (tryE e.base e.vers m x).w.length dw) j v' h
          clear hrow
          rw [show X 8 = _ from hF, show X 45 = _ from h12]
          have hX8 := hF; have hX45 := h12
          rw [show X 8 = _ from hF, show X 45 = _ from h12] at hK
          go_simp
          exact hK _ (fun h => by refine Ext.setCell (Ext.setCell (Ext.setCell h ?_ _) ?_ _) ?_ _ <;> (simp; omega)) trivial hst9 (fun j X' hj h => by unfold tryS at h ⊢; split at h; exact absurd rfl hj; trivial) ⟨F, qr, dr, qw, dw, hX8, hX45, hlo, hR⟩
      · intro X w9 hE hW hF hF0
        replace hE := hE (Ext.refl _)
        have g0 := hF 0 34 (by decide) rfl
        have g1 := hF 1 35 (by decide) rfl
        have g2 := hF 2 36 (by decide) rfl
        have g3 := hF 3 37 (by decide) rfl
        have g4 := hF 4 38 (by decide) rfl
        have g5 := hF 5 39 (by decide) rfl
        have g6 := hF 6 40 (by decide) rfl
        have g7 := hF 7 41 (by decide) rfl
        have g8 := hF 8 42 (by decide) rfl
        have g9 := hF 9 43 (by decide) rfl
        have g10 := hF 10 44 (by decide) rfl
        have g11 := hF 11 33 (by decide) rfl
        have g12 := hF 12 45 (by decide) rfl
        have g13 := hF 13 46 (by decide) rfl
        have g14 := hF 14 8 (by decide) rfl
        have g15 := hF0 15 (by decide) rfl
        clear hF hF0
        simp only [putL, Act.put, List.setIfInBounds_toArray, List.set_cons_zero, List.set_cons_succ]
        obtain ⟨F, qr, dr, qw, dw, hF, h12, hlo, RF⟩ := g15
        obtain ⟨qr', dr', qw', dw', h12', o1, o2, ap⟩ := g12
        have h14 := h12.symm.trans h12'
        simp only [Value.agg.injEq, Array.mk.injEq, List.cons.injEq, Value.slice.injEq, and_true, true_and] at h14
        obtain ⟨⟨rfl, rfl⟩, rfl, rfl⟩ := h14
        obtain ⟨qf, df, h13, o0⟩ := g13
        obtain ⟨z9, rfl⟩ := Up.of hE
        rw [show X 8 = _ from hF, show X 45 = _ from h12, show X 46 = _ from h13]
        have hx9 : TS.own (z1.val.heap.size + 1 + 1) z9.val ⟨1, t.tr + 1, .slice qf (nowF e.base e.vers m x.rk).length df, (tryE e.base e.vers m x).d, .slice qr (tryE e.base e.vers m x).r.length dr, .slice qw (tryE e.base e.vers m x).w.length dw, (nowF e.base e.vers m x.rk), (tryE e.base e.vers m x).r, (tryE e.base e.vers m x).w⟩ := ⟨o0, o1, o2⟩
        have hpp : (TS.parts ⟨1, t.tr + 1, .slice qf (nowF e.base e.vers m x.rk).length df, (tryE e.base e.vers m x).d, .slice qr (tryE e.base e.vers m x).r.length dr, .slice qw (tryE e.base e.vers m x).w.length dw, (nowF e.base e.vers m x.rk), (tryE e.base e.vers m x).r, (tryE e.base e.vers m x).w⟩).Pairwise Apart := by
          simp only [TS.parts, List.pairwise_cons, List.mem_cons, List.not_mem_nil, or_false, forall_eq_or_imp, forall_eq, false_implies, implies_true, and_true, List.Pairwise.nil]
          exact ⟨⟨o0.apart_type o1 (by decide), o0.apart_type o2 (by decide)⟩, ap⟩
        refine wpAnyH_ready (rs := [16]) (by kernel_rfl) (by simp) ?_
        refine AllReadyH.cons (opAt rfl) (fun K hK => ?_) AllReadyH.nil
        go_simp
        refine hK.out _ _ trivial (fun _ => wpAnyH_done (by kernel_rfl) ?_ _)
        clear hK K
        have E15 : Ext ((z1.val.alloc (.cells #[.slice q0 e.base.length d0, .slice q1 e.acts.length d1, .slice q2 e.vers.length d2, .slice (some ⟨g, 0, none⟩) ts.length d3] 28)).alloc (.cells #[.int .i64 0, .int .i64 t.tr, .slice pf t.f.length cf, .bool t.e.d, .slice pr t.e.r.length cr, .slice pw t.e.w.length cw] 39)) z9.val := Ext.trans ((Ext.refl _).drew) z9.ext
        clear hF h12 h12' h13 o0 o1 o2 ap g0 g1 g2 g3 g4 g5 g6 g7 g8 g9 g10 g11 g14 hE
        obtain ⟨z5, hz5⟩ := Up.of E15
        rw [hz5] at RF hx9 ⊢
        clear hz5 E15 z9
        have hLF : LtS F z5.val := ⟨(Array.getElem?_eq_some_iff.1 RF).1⟩
        have j0 := cell_of_row _ _ 0 _ _ _ RF
        have j1 := cell_of_row _ _ 1 _ _ _ RF
        have j2 := cell_of_row _ _ 2 _ _ _ RF
        have hz5 := z5.ext.size
        simp at hz5
        have EZ : Ext z1.val z5.val := Ext.trans (((Ext.refl _).alloc _).alloc _) z5.ext
        have hxg9 := Lib.hid (show ∀ v ∈ TS.parts ⟨1, t.tr + 1, .slice qf (nowF e.base e.vers m x.rk).length df, (tryE e.base e.vers m x).d, .slice qr (tryE e.base e.vers m x).r.length dr, .slice qw (tryE e.base e.vers m x).w.length dw, (nowF e.base e.vers m x.rk), (tryE e.base e.vers m x).r, (tryE e.base e.vers m x).w⟩, Apart v (.slice (some ⟨g, 0, none⟩) ts.length d3) from TS.own.new HO.out.g.sl.row hx9 (by omega))
        have HX9 := Lib.hid hx9; have HPP := Lib.hid hpp; clear hx9 hpp RF
        have S9 := (HX9.out.set6 (m * 6) ⟨1, t.tr + 1, .slice qf (nowF e.base e.vers m x.rk).length df, (tryE e.base e.vers m x).d, .slice qr (tryE e.base e.vers m x).r.length dr, .slice qw (tryE e.base e.vers m x).w.length dw, (nowF e.base e.vers m x.rk), (tryE e.base e.vers m x).r, (tryE e.base e.vers m x).w⟩ (hxg9.out)).2.2.sl Ent.enc_length
        simp only [set6] at S9
        have S9 := Lib.hid S9
        go_wp2_with fail
        refine (l9Put_any e.vers (tryE e.base e.vers m x).w _ _ (m : Int) _ (HG.out.vers.up (by repeat (first | (with_reducible exact (Ext.refl _)) | (with_reducible exact z1.ext) | (with_reducible refine Ext.setCell ?_ (by first | exact Nat.le_succ _ | omega | (simp; omega)) _) | (with_reducible refine Ext.up ?_ _) | (with_reducible refine Ext.alloc ?_ _)))) S9.out (by omega) (by omega)).mono ?_; rintro ed w' ⟨v9, rfl, ⟨z9, rfl⟩, o9⟩
        obtain ⟨q9, d9, rfl, _, _⟩ := (o9.sl Ver.enc_length).openc
        have hz9 := z9.ext.size
        simp [setCell_sz] at hz9
        have O9 := Lib.hid o9; clear o9
        go_wp2_with fail
        refine bodyPost_ret (v := .tuple #[.agg #[.slice q0 e.base.length d0, .slice q1 e.acts.length d1, .slice q9 (putV e.vers m (tryE e.base e.vers m x).w).length d9, .slice (some ⟨g, 0, none⟩) ts.length d3], .bool true]) (by simp [results, Try.results61, go_sem, cR0, cR1, cR2, cR3]) rfl ?_
        refine ⟨_, _, _, _, ts.set m ⟨1, t.tr + 1, .slice qf (nowF e.base e.vers m x.rk).length df, (tryE e.base e.vers m x).d, .slice qr (tryE e.base e.vers m x).r.length dr, .slice qw (tryE e.base e.vers m x).w.length dw, (nowF e.base e.vers m x.rk), (tryE e.base e.vers m x).r, (tryE e.base e.vers m x).w⟩, by rw [hst], .of ?_, by rw [hst, List.map_set, HT.out]; rfl, ?_⟩
        · repeat (first | (with_reducible exact (Ext.refl _)) | (with_reducible exact z1.ext) | (with_reducible refine Ext.setCell ?_ (by first | exact Nat.le_succ _ | omega | (simp; omega)) _) | (with_reducible refine Ext.up ?_ _) | (with_reducible refine Ext.alloc ?_ _))
        · rw [hst]
          refine OEX.lo (lo := w.heap.size + 1 + 1) ?_ (by omega)
          repeat (first | (refine OEX.setOld ?_ _ _ (by show w.heap.size + 1 < _; omega)))
          exact OEX.slotVers (lo' := z1.val.heap.size + 1 + 1) (x' := ⟨1, t.tr + 1, .slice qf (nowF e.base e.vers m x.rk).length df, (tryE e.base e.vers m x).d, .slice qr (tryE e.base e.vers m x).r.length dr, .slice qw (tryE e.base e.vers m x).w.length dw, (nowF e.base e.vers m x.rk), (tryE e.base e.vers m x).r, (tryE e.base e.vers m x).w⟩) (HO.out.lo (by simp)) EZ htx.out HX9.out (Nat.le_refl _) (by omega) (by omega) HPP.out z9.ext O9.out (by simp [setCell_sz]) (by omega)
  by_cases s1 : t.st = 1
  · rw [s1] at e0
    have hst : e.step m = (if e.prevOk m = true then (if curOk e.base e.vers m t = true then (⟨e.base, e.acts, e.vers, e.sl.set m ⟨2, t.tr, t.f, t.e⟩⟩, true) else (⟨e.base, e.acts, dropV e.vers m, e.sl.set m ⟨0, t.tr, [], ⟨false, [], []⟩⟩⟩, true)) else (e, false)) := by rw [hst]; unfold Eng.stepAt; rw [if_neg s0, if_pos s1]
    have hfl := Lib.hid (show t.f.length = t.e.r.length by
      have := hsl.out
      unfold sltOk at this
      rw [if_neg s0] at this
      simp only [sltTry, Bool.and_eq_true, decide_eq_true_eq] at this
      omega)
    by_cases hm0 : m = 0
    · have hkp : decide ((0 : Int) < (m : Int)) = false := by simp; omega
      have hkp' : decide (0 < m) = false := by simp; omega
      rw [if_pos (by unfold Eng.prevOk; simp [hm0])] at hst
      clear hm0
      go_wp2_with ((go_at_call 49; refine (l1In_any _ _ _ _).mono ?_; rintro e w' ⟨rfl, rfl⟩))
      refine (sSame_cur e _ _ _ _ m t _ (HG.out.up (by repeat (first | (with_reducible exact Ext.refl _) | (with_reducible refine Ext.up ?_ _) | (with_reducible refine Ext.alloc ?_ _) | (with_reducible refine Ext.drew ?_) | (with_reducible refine Ext.setRow ?_ (by first | exact LeS.le | exact LeS.add _ | (simp; done) | (simp; omega)) _) | (with_reducible refine Ext.setCell ?_ (by first | exact LeS.le | exact LeS.add _ | (simp; done) | (simp; omega)) _)))) HT0.out (hfl.out)).mono ?_; rintro ed w' ⟨rfl, ⟨z7, rfl⟩⟩
      rcases hcu : curOk e.base e.vers m t with _ | _
      · rw [if_neg (by rw [hcu]; decide)] at hst
        have hz7 := z7.ext.size
        simp at hz7
        have EZ : Ext z1.val z7.val := Ext.trans (((Ext.refl _).alloc _).alloc _) z7.ext
        go_wp2_with fail
        refine (l9Drop_any e.vers _ (m : Int) _ (HG.out.vers.up (by repeat (first | (with_reducible exact (Ext.refl _)) | (with_reducible exact z1.ext) | (with_reducible refine Ext.setCell ?_ (by first | exact Nat.le_succ _ | omega | (simp; omega)) _) | (with_reducible refine Ext.up ?_ _) | (with_reducible refine Ext.alloc ?_ _)))) (by omega)).mono ?_; rintro ed w' ⟨v9, rfl, ⟨z9, rfl⟩, o9⟩
        obtain ⟨q9, d9, rfl, _, _⟩ := (o9.sl Ver.enc_length).openc
        have hz9 := z9.ext.size
        simp [setCell_sz] at hz9
        have O9 := Lib.hid o9; clear o9
        go_wp2_with fail
        refine bodyPost_ret (v := .tuple #[.agg #[.slice q0 e.base.length d0, .slice q1 e.acts.length d1, .slice q9 (dropV e.vers m).length d9, .slice (some ⟨g, 0, none⟩) ts.length d3], .bool true]) (by simp [results, Try.results61, go_sem, cR0, cR1, cR2, cR3]) rfl ?_
        refine ⟨_, _, _, _, ts.set m ⟨0, t.tr, .slice none 0 0, false, .slice none 0 0, .slice none 0 0, [], [], []⟩, by rw [hst], .of ?_, by rw [hst, List.map_set, HT.out]; rfl, ?_⟩
        · repeat (first | (with_reducible exact (Ext.refl _)) | (with_reducible exact z1.ext) | (with_reducible refine Ext.setCell ?_ (by first | exact Nat.le_succ _ | omega | (simp; omega)) _) | (with_reducible refine Ext.up ?_ _) | (with_reducible refine Ext.alloc ?_ _))
        · rw [hst]
          refine OEX.lo (lo := w.heap.size + 1 + 1) ?_ (by omega)
          repeat (first | (refine OEX.setOld ?_ _ _ (by show w.heap.size + 1 < _; omega)))
          exact OEX.slotVers (lo' := z7.val.heap.size) (x' := ⟨0, t.tr, .slice none 0 0, false, .slice none 0 0, .slice none 0 0, [], [], []⟩) (HO.out.lo (by simp)) EZ htx.out ⟨Own.nil _ _ _ _ _, Own.nil _ _ _ _ _, Own.nil _ _ _ _ _⟩ (Nat.le_refl _) (by omega) (by omega) (by simp [TS.parts, Apart.nil]) z9.ext O9.out (by simp [setCell_sz]) (Nat.le_refl _)
      · rw [if_pos hcu] at hst
        go_wp2_with fail
        refine bodyPost_ret (v := .tuple #[.agg #[.slice q0 e.base.length d0, .slice q1 e.acts.length d1, .slice q2 e.vers.length d2, .slice (some ⟨g, 0, none⟩) ts.length d3], .bool true]) (by simp [results, Try.results61, go_sem, cR0, cR1, cR2, cR3]) rfl ?_
        refine ⟨_, _, _, _, ts.set m { tx with st := 2 }, by rw [hst], .of ?_, by rw [hst, List.map_set, HT.out, ← htc]; rfl, ?_⟩
        · repeat (first | (with_reducible exact (Ext.refl _)) | (with_reducible exact z1.ext) | (with_reducible refine Ext.setCell ?_ (by first | exact Nat.le_succ _ | omega | (simp; omega)) _) | (with_reducible refine Ext.up ?_ _) | (with_reducible refine Ext.alloc ?_ _))
        · rw [hst]
          refine OEX.lo (lo := w.heap.size + 1 + 1) ?_ (by omega)
          repeat (first | (refine OEX.setOld ?_ _ _ (by show w.heap.size + 1 < _; omega)))
          refine OEX.setSt ?_ htx.out 2
          repeat (first | (with_reducible exact HO.out) | (exact HO.out.lo (by simp)) | (with_reducible refine OEX.up ?_ ((Ext.refl _).alloc _)) | (with_reducible refine OEX.up ?_ (Extd.ext _)))
    · have hkp : decide ((0 : Int) < (m : Int)) = true := by simp; omega
      have hkp' : decide (0 < m) = true := by simp; omega
      obtain ⟨pv, hpv⟩ := getElem?_some_of_lt (l := e.sl) (k := m - 1) (by omega)
      obtain ⟨b', off', _, _, _, _, _, _, ee, _, ⟨w0, -⟩, -⟩ := HCS.out (m - 1) pv hpv
      simp only [Option.some.injEq, Addr.mk.injEq, and_true] at ee
      obtain ⟨rfl, rfl⟩ := ee
      have km : ((m : Int) - 1).toNat = m - 1 := by omega
      have km0 : (0 : Int) ≤ (m : Int) - 1 := by omega
      have km1 : (m : Int) - 1 < e.sl.length := by omega
      have kw : IntKind.i64.wrap ((m : Int) - 1) = (m : Int) - 1 := IntWalk.i64_in _ ⟨by omega, by omega⟩
      have hpo : e.prevOk m = (pv.st == 2) := by unfold Eng.prevOk; rw [hpv]; simp [hm0]
      clear hpv hm0
      rcases hp2 : (pv.st == 2) with _ | _
      · have hp2' : (pv.st != 2) = true := by rw [bne, hp2]; rfl
        rw [if_neg (by rw [hpo, hp2]; decide)] at hst
        clear hp2
        go_wp2_with ((go_at_call 49; refine (l1In_any _ _ _ _).mono ?_; rintro e w' ⟨rfl, rfl⟩))
        refine bodyPost_ret (v := .tuple #[.agg #[.slice q0 e.base.length d0, .slice q1 e.acts.length d1, .slice q2 e.vers.length d2, .slice (some ⟨g, 0, none⟩) ts.length d3], .bool false]) (by simp [results, Try.results61, go_sem, cR0, cR1, cR2, cR3]) rfl ?_
        refine ⟨_, _, _, _, ts, by rw [hst], .of ?_, by rw [hst]; exact HT.out, ?_⟩
        · repeat (first | (with_reducible exact (Ext.refl _)) | (with_reducible exact z1.ext) | (with_reducible refine Ext.setCell ?_ (by first | exact Nat.le_succ _ | omega | (simp; omega)) _) | (with_reducible refine Ext.up ?_ _) | (with_reducible refine Ext.alloc ?_ _))
        · rw [hst]
          refine OEX.lo (lo := w.heap.size + 1 + 1) ?_ (by omega)
          repeat (first | (with_reducible exact HO.out) | (exact HO.out.lo (by simp)) | (refine OEX.setOld ?_ _ _ (by show w.heap.size + 1 < _; omega)) | (with_reducible refine OEX.up ?_ ((Ext.refl _).alloc _)) | (with_reducible refine OEX.up ?_ (Extd.ext _)))
      · have hp2' : (pv.st != 2) = false := by rw [bne, hp2]; rfl
        rw [if_pos (by rw [hpo, hp2])] at hst
        clear hp2
        go_wp2_with ((go_at_call 49; refine (l1In_any _ _ _ _).mono ?_; rintro e w' ⟨rfl, rfl⟩))
        refine (sSame_cur e _ _ _ _ m t _ (HG.out.up (by repeat (first | (with_reducible exact Ext.refl _) | (with_reducible refine Ext.up ?_ _) | (with_reducible refine Ext.alloc ?_ _) | (with_reducible refine Ext.drew ?_) | (with_reducible refine Ext.setRow ?_ (by first | exact LeS.le | exact LeS.add _ | (simp; done) | (simp; omega)) _) | (with_reducible refine Ext.setCell ?_ (by first | exact LeS.le | exact LeS.add _ | (simp; done) | (simp; omega)) _)))) HT0.out (hfl.out)).mono ?_; rintro ed w' ⟨rfl, ⟨z7, rfl⟩⟩
        rcases hcu : curOk e.base e.vers m t with _ | _
        · rw [if_neg (by rw [hcu]; decide)] at hst
          have hz7 := z7.ext.size
          simp at hz7
          have EZ : Ext z1.val z7.val := Ext.trans (((Ext.refl _).alloc _).alloc _) z7.ext
          go_wp2_with fail
          refine (l9Drop_any e.vers _ (m : Int) _ (HG.out.vers.up (by repeat (first | (with_reducible exact (Ext.refl _)) | (with_reducible exact z1.ext) | (with_reducible refine Ext.setCell ?_ (by first | exact Nat.le_succ _ | omega | (simp; omega)) _) | (with_reducible refine Ext.up ?_ _) | (with_reducible refine Ext.alloc ?_ _)))) (by omega)).mono ?_; rintro ed w' ⟨v9, rfl, ⟨z9, rfl⟩, o9⟩
          obtain ⟨q9, d9, rfl, _, _⟩ := (o9.sl Ver.enc_length).openc
          have hz9 := z9.ext.size
          simp [setCell_sz] at hz9
          have O9 := Lib.hid o9; clear o9
          go_wp2_with fail
          refine bodyPost_ret (v := .tuple #[.agg #[.slice q0 e.base.length d0, .slice q1 e.acts.length d1, .slice q9 (dropV e.vers m).length d9, .slice (some ⟨g, 0, none⟩) ts.length d3], .bool true]) (by simp [results, Try.results61, go_sem, cR0, cR1, cR2, cR3]) rfl ?_
          refine ⟨_, _, _, _, ts.set m ⟨0, t.tr, .slice none 0 0, false, .slice none 0 0, .slice none 0 0, [], [], []⟩, by rw [hst], .of ?_, by rw [hst, List.map_set, HT.out]; rfl, ?_⟩
          · repeat (first | (with_reducible exact (Ext.refl _)) | (with_reducible exact z1.ext) | (with_reducible refine Ext.setCell ?_ (by first | exact Nat.le_succ _ | omega | (simp; omega)) _) | (with_reducible refine Ext.up ?_ _) | (with_reducible refine Ext.alloc ?_ _))
          · rw [hst]
            refine OEX.lo (lo := w.heap.size + 1 + 1) ?_ (by omega)
            repeat (first | (refine OEX.setOld ?_ _ _ (by show w.heap.size + 1 < _; omega)))
            exact OEX.slotVers (lo' := z7.val.heap.size) (x' := ⟨0, t.tr, .slice none 0 0, false, .slice none 0 0, .slice none 0 0, [], [], []⟩) (HO.out.lo (by simp)) EZ htx.out ⟨Own.nil _ _ _ _ _, Own.nil _ _ _ _ _, Own.nil _ _ _ _ _⟩ (Nat.le_refl _) (by omega) (by omega) (by simp [TS.parts, Apart.nil]) z9.ext O9.out (by simp [setCell_sz]) (Nat.le_refl _)
        · rw [if_pos hcu] at hst
          go_wp2_with fail
          refine bodyPost_ret (v := .tuple #[.agg #[.slice q0 e.base.length d0, .slice q1 e.acts.length d1, .slice q2 e.vers.length d2, .slice (some ⟨g, 0, none⟩) ts.length d3], .bool true]) (by simp [results, Try.results61, go_sem, cR0, cR1, cR2, cR3]) rfl ?_
          refine ⟨_, _, _, _, ts.set m { tx with st := 2 }, by rw [hst], .of ?_, by rw [hst, List.map_set, HT.out, ← htc]; rfl, ?_⟩
          · repeat (first | (with_reducible exact (Ext.refl _)) | (with_reducible exact z1.ext) | (with_reducible refine Ext.setCell ?_ (by first | exact Nat.le_succ _ | omega | (simp; omega)) _) | (with_reducible refine Ext.up ?_ _) | (with_reducible refine Ext.alloc ?_ _))
          · rw [hst]
            refine OEX.lo (lo := w.heap.size + 1 + 1) ?_ (by omega)
            repeat (first | (refine OEX.setOld ?_ _ _ (by show w.heap.size + 1 < _; omega)))
            refine OEX.setSt ?_ htx.out 2
            repeat (first | (with_reducible exact HO.out) | (exact HO.out.lo (by simp)) | (with_reducible refine OEX.up ?_ ((Ext.refl _).alloc _)) | (with_reducible refine OEX.up ?_ (Extd.ext _)))
  · have hst : e.step m = (e, false) := by rw [hst]; unfold Eng.stepAt; rw [if_neg s0, if_neg s1]
    go_wp2_with ((go_at_call 49; refine (l1In_any _ _ _ _).mono ?_; rintro e w' ⟨rfl, rfl⟩))
    refine bodyPost_ret (v := .tuple #[.agg #[.slice q0 e.base.length d0, .slice q1 e.acts.length d1, .slice q2 e.vers.length d2, .slice (some ⟨g, 0, none⟩) ts.length d3], .bool false]) (by simp [results, Try.results61, go_sem, cR0, cR1, cR2, cR3]) rfl ?_
    refine ⟨_, _, _, _, ts, by rw [hst], .of ?_, by rw [hst]; exact HT.out, ?_⟩
    · repeat (first | (with_reducible exact (Ext.refl _)) | (with_reducible exact z1.ext) | (with_reducible refine Ext.setCell ?_ (by first | exact Nat.le_succ _ | omega | (simp; omega)) _) | (with_reducible refine Ext.up ?_ _) | (with_reducible refine Ext.alloc ?_ _))
    · rw [hst]
      refine OEX.lo (lo := w.heap.size + 1 + 1) ?_ (by omega)
      repeat (first | (with_reducible exact HO.out) | (exact HO.out.lo (by simp)) | (refine OEX.setOld ?_ _ _ (by show w.heap.size + 1 < _; omega)) | (with_reducible refine OEX.up ?_ ((Ext.refl _).alloc _)) | (with_reducible refine OEX.up ?_ (Extd.ext _)))
end Go.Proofs.Ytnknamddonjnjaa
