/- Plain laws: engines: versions behind a step. Walks: engines on the reference's side: entries that are equal, what an action reads. -/
import Derived.Test.YtnknamddonjnjaaGEoVTop14
import Derived.Test.YtnknamddonjnjaaGEoVTop19
import Derived.Test.YtnknamddonjnjaaGEoVTop03
set_option linter.unusedSimpArgs false
set_option linter.unusedVariables false
namespace Go.Proofs.Ytnknamddonjnjaa
open Go Go.RowKit Go.Proofs

theorem mem_putV {l : List Ver} {n : Int} {u : List Ent} {x : Ver} : x ∈ putV l n u ↔ (x ∈ l ∧ x.b ≠ n) ∨ ∃ y ∈ u, x = mkV n y := by
  unfold putV
  rw [(putTo_perm n u (dropV l n)).mem_iff, List.mem_append, List.mem_map]
  unfold dropV
  rw [List.mem_filter, decide_eq_true_eq]
  constructor
  · rintro (h | ⟨y, hy, e⟩)
    · exact .inl h
    · exact .inr ⟨y, hy, e.symm⟩
  · rintro (h | ⟨y, hy, e⟩)
    · exact .inl h
    · exact .inr ⟨y, hy, e.symm⟩
theorem vlt_ne {x y : Ver} (h : verLt x y = true) : x ≠ y := by rintro rfl; rw [verLt_irr] at h; cases h
theorem sorted_same : ∀ (a b : List Ver), a.Pairwise (fun x y => verLt x y = true) → b.Pairwise (fun x y => verLt x y = true) → (∀ x, x ∈ a ↔ x ∈ b) → a = b
  | [], [], _, _, _ => rfl
  | [], y :: b, _, _, h => by have := (h y).2 (by simp); cases this
  | x :: a, [], _, _, h => by have := (h x).1 (by simp); cases this
  | x :: a, y :: b, ha, hb, h => by
    rw [List.pairwise_cons] at ha hb
    have e : x = y := by
      rcases List.mem_cons.1 ((h x).1 (by simp)) with e | hx
      · exact e
      rcases List.mem_cons.1 ((h y).2 (by simp)) with e | hy
      · exact e.symm
      have := vlt_ne (verLt_trans (ha.1 y hy) (hb.1 x hx))
      exact absurd rfl this
    subst e
    rw [sorted_same a b ha.2 hb.2 fun z => ⟨fun hz => ?_, fun hz => ?_⟩]
    · rcases List.mem_cons.1 ((h z).1 (by simp [hz])) with e | hz'
      · exact absurd e.symm (vlt_ne (ha.1 z hz))
      · exact hz'
    · rcases List.mem_cons.1 ((h z).2 (by simp [hz])) with e | hz'
      · exact absurd e.symm (vlt_ne (hb.1 z hz))
      · exact hz'
theorem mem_versE (E : List Eff) {x : Ver} : ∀ k, x ∈ versE E k ↔ ∃ i e y, i < k ∧ E[i]? = some e ∧ y ∈ e.w ∧ x = mkV (i : Nat) y
  | 0 => by simp [versE]
  | k + 1 => by
    rw [versE, mem_putV, mem_versE E k]
    constructor
    · rintro (⟨⟨i, e, y, h1, h2, h3, h4⟩, _⟩ | ⟨y, hy, rfl⟩)
      · exact ⟨i, e, y, by omega, h2, h3, h4⟩
      · rcases hE : E[k]? with _ | e
        · rw [hE] at hy; cases hy
        · rw [hE] at hy; exact ⟨k, e, y, by omega, hE, hy, rfl⟩
    · rintro ⟨i, e, y, h1, h2, h3, rfl⟩
      by_cases hi : i = k
      · subst hi; right; exact ⟨y, by rw [h2]; exact h3, rfl⟩
      · left; exact ⟨⟨i, e, y, by omega, h2, h3, rfl⟩, by show (i : Int) ≠ k; omega⟩
/-- A slot's effect put in place: its versions put in place. -/
theorem versE_set {E : List Eff} (h : ∀ e ∈ E, entsOk 0 e.w = true) (hl : E.length ≤ 10) {n : Nat} (hn : n < E.length) {e : Eff} (he : entsOk 0 e.w = true) : versE (E.set n e) E.length = putV (versE E E.length) n e.w := by
  have h' : ∀ x ∈ E.set n e, entsOk 0 x.w = true := fun x hx => by
    rcases List.mem_or_eq_of_mem_set hx with hx | rfl
    · exact h x hx
    · exact he
  have hp : putOk (versE E E.length) n e.w = true := by
    simp only [putOk, versE_ok h _ hl, he, Bool.true_and, Bool.and_true, inR_iff]; omega
  refine sorted_same _ _ (vers_sorted (versE_ok h' _ hl)) (vers_sorted (putV_ok hp)) fun x => ?_
  rw [mem_versE, mem_putV, mem_versE]
  constructor
  · rintro ⟨i, f, y, h1, h2, h3, rfl⟩
    by_cases hi : i = n
    · subst hi
      rw [List.getElem?_set_self hn, Option.some.injEq] at h2
      subst h2
      exact .inr ⟨y, h3, rfl⟩
    · rw [List.getElem?_set_ne (by omega)] at h2
      exact .inl ⟨⟨i, f, y, h1, h2, h3, rfl⟩, by show (i : Int) ≠ n; omega⟩
  · rintro (⟨⟨i, f, y, h1, h2, h3, rfl⟩, hb⟩ | ⟨y, hy, rfl⟩)
    · have hi : i ≠ n := by rintro rfl; exact hb rfl
      exact ⟨i, f, y, h1, by rw [List.getElem?_set_ne (by omega)]; exact h2, h3, rfl⟩
    · exact ⟨n, e, y, hn, List.getElem?_set_self hn, hy, rfl⟩
theorem versE_clear {E : List Eff} (h : ∀ e ∈ E, entsOk 0 e.w = true) (hl : E.length ≤ 10) {n : Nat} (hn : n < E.length) (d : Bool) (r : List Ent) : versE (E.set n ⟨d, r, []⟩) E.length = dropV (versE E E.length) n :=
  versE_set h hl hn (e := ⟨d, r, []⟩) rfl
end Go.Proofs.Ytnknamddonjnjaa
namespace Go.Proofs.Ytnknamddonjnjaa
open Go Go.RowKit Go.Proofs

set_option maxRecDepth 100000 in
set_option maxHeartbeats 1000000 in
theorem sSameEnts_any (l m : List Ent) (v v' : Value) (w : World) (h : SL (RF Ent.enc) 2 w v l) (h' : SL (RF Ent.enc) 2 w v' m) :
    Calls Try.prog 53 #[v, v'] w fun e w' => e = .returned (.bool (sameL sameE1 l m)) ∧ Up w w' := by
  obtain ⟨a, cap, rfl, hlen, hc⟩ := h.open
  obtain ⟨a', cap', rfl, _, hc'⟩ := h'.open
  clear h h'
  by_cases hll : l.length = m.length
  rotate_left
  · have hF := Lib.hid (show sameL sameE1 l m = false by unfold sameL; rw [decide_eq_false hll]; rfl)
    have hne : ((l.length : Int) != (m.length : Int)) = true := by rw [bne_iff_ne]; omega
    clear hll
    go_enter Try.func53, Try.ntmps53
    go_wp2_with fail
    go_ret
    exact ⟨by rw [hF.out]; rfl, (.of (by repeat (first | (with_reducible exact Ext.refl _) | (with_reducible refine Ext.up ?_ _) | (with_reducible refine Ext.alloc ?_ _) | (with_reducible refine Ext.drew ?_) | (with_reducible refine Ext.setRow ?_ (by first | exact LeS.le | exact LeS.add _ | (simp; done) | (simp; omega)) _) | (with_reducible refine Ext.setCell ?_ (by first | exact LeS.le | exact LeS.add _ | (simp; done) | (simp; omega)) _))))⟩
  have hT := Lib.hid (show sameL sameE1 l m = upTo (sameAt sameE1 l m) l.length by unfold sameL; rw [decide_eq_true hll, Bool.true_and])
  rw [← hll]
  have HLL := Lib.hid hll; clear hll
  go_enter Try.func53, Try.ntmps53
  go_wp2_with fail
  go_loopw [5] (fun s5 wr => ∃ (k : Nat), s5 = .int .i64 k ∧ k ≤ l.length ∧ Up w wr ∧ upTo (sameAt sameE1 l m) k = true) (fun s5 _ => l.length - (intOf s5).toNat)
  case atStart => exact ⟨0, rfl, Nat.zero_le _, .of (Ext.refl _), rfl⟩
  case round =>
    obtain ⟨k, rfl, hk, ⟨z, rfl⟩, hall⟩ := hrel
    have HALL := Lib.hid hall; clear hall
    by_cases hlt : k < l.length
    · obtain ⟨x, hxk⟩ := getElem?_some_of_lt hlt
      obtain ⟨y, hyk⟩ := getElem?_some_of_lt (l := m) (k := k) (by rw [← HLL.out]; exact hlt)
      obtain ⟨b, off, rfl, hb, hcc⟩ := hc k x hxk
      obtain ⟨b2, off2, rfl, hb2, hdd⟩ := hc' k y hyk
      have Hat := Lib.hid (sameAt_eq (same := sameE1) hxk hyk)
      obtain ⟨xk, xv⟩ := x; obtain ⟨yk, yv⟩ := y
      have c0 : w.cell? ⟨b, off + k * 2, none⟩ = some (.int .i64 xk) := hcc 0 _ rfl
      have c1 : w.cell? ⟨b, off + k * 2 + 1, none⟩ = some (.int .i64 xv) := hcc 1 _ rfl
      have d0 : w.cell? ⟨b2, off2 + k * 2, none⟩ = some (.int .i64 yk) := hdd 0 _ rfl
      have d1 : w.cell? ⟨b2, off2 + k * 2 + 1, none⟩ = some (.int .i64 yv) := hdd 1 _ rfl
      have k0 : (0 : Int) ≤ (k : Int) := by omega
      have k1 : (k : Int) < l.length := by omega
      clear hc hcc hc' hdd hxk hyk
      rcases (show (xk ≠ yk) ∨ (xk = yk ∧ xv ≠ yv) ∨ (xk = yk ∧ xv = yv) by omega) with hne | ⟨rfl, hne⟩ | ⟨rfl, rfl⟩
      · have hb0 : (xk == yk) = false := by simpa using hne
        have hb0' : (xk != yk) = true := by simpa using hne
        clear hne
        go_wp2_with fail
        (refine wp_region_up (by kernel_rfl) (by kernel_rfl) ?_; (repeat (go_big_quiet_step (fail))); refine wpQuiet_nil ?_; intro _ hw'; obtain ⟨zq, hw''⟩ := hw'; subst hw'')
        go_wp2_with fail
        go_ret
        exact ⟨by rw [hT.out, upTo_false hlt (by rw [Hat.out]; simp [sameE1, hb0])]; rfl, (.of (by repeat (first | (with_reducible exact Ext.refl _) | (with_reducible refine Ext.up ?_ _) | (with_reducible refine Ext.alloc ?_ _) | (with_reducible refine Ext.drew ?_) | (with_reducible refine Ext.setRow ?_ (by first | exact LeS.le | exact LeS.add _ | (simp; done) | (simp; omega)) _) | (with_reducible refine Ext.setCell ?_ (by first | exact LeS.le | exact LeS.add _ | (simp; done) | (simp; omega)) _))))⟩
      · have hb1 : (xv == yv) = false := by simpa using hne
        have hb1' : (xv != yv) = true := by simpa using hne
        clear hne
        go_wp2_with fail
        (refine wp_region_up (by kernel_rfl) (by kernel_rfl) ?_; (repeat (go_big_quiet_step (fail))); refine wpQuiet_nil ?_; intro _ hw'; obtain ⟨zq, hw''⟩ := hw'; subst hw'')
        go_wp2_with fail
        go_ret
        exact ⟨by rw [hT.out, upTo_false hlt (by rw [Hat.out]; simp [sameE1, hb1])]; rfl, (.of (by repeat (first | (with_reducible exact Ext.refl _) | (with_reducible refine Ext.up ?_ _) | (with_reducible refine Ext.alloc ?_ _) | (with_reducible refine Ext.drew ?_) | (with_reducible refine Ext.setRow ?_ (by first | exact LeS.le | exact LeS.add _ | (simp; done) | (simp; omega)) _) | (with_reducible refine Ext.setCell ?_ (by first | exact LeS.le | exact LeS.add _ | (simp; done) | (simp; omega)) _))))⟩
      · go_wp2_with fail
        (refine wp_region_up (by kernel_rfl) (by kernel_rfl) ?_; (repeat (go_big_quiet_step (fail))); refine wpQuiet_nil ?_; intro _ hw'; obtain ⟨zq, hw''⟩ := hw'; subst hw'')
        go_wp2_with fail
        go_roundw
        case rel => exact ⟨k + 1, by go_num, by omega, (.of (by repeat (first | (with_reducible exact Ext.refl _) | (with_reducible refine Ext.up ?_ _) | (with_reducible refine Ext.alloc ?_ _) | (with_reducible refine Ext.drew ?_) | (with_reducible refine Ext.setRow ?_ (by first | exact LeS.le | exact LeS.add _ | (simp; done) | (simp; omega)) _) | (with_reducible refine Ext.setCell ?_ (by first | exact LeS.le | exact LeS.add _ | (simp; done) | (simp; omega)) _)))), upTo_succ HALL.out (by rw [Hat.out]; simp [sameE1])⟩
        case measure => simp [intOf] <;> omega
    · obtain rfl : k = l.length := by omega
      go_wp2_with fail
      go_ret
      exact ⟨by rw [hT.out, HALL.out]; rfl, (.of (by repeat (first | (with_reducible exact Ext.refl _) | (with_reducible refine Ext.up ?_ _) | (with_reducible refine Ext.alloc ?_ _) | (with_reducible refine Ext.drew ?_) | (with_reducible refine Ext.setRow ?_ (by first | exact LeS.le | exact LeS.add _ | (simp; done) | (simp; omega)) _) | (with_reducible refine Ext.setCell ?_ (by first | exact LeS.le | exact LeS.add _ | (simp; done) | (simp; omega)) _))))⟩
set_option maxRecDepth 100000 in
set_option maxHeartbeats 2000000 in
theorem sSame_cur (e : Eng) (v0 v1 v2 v3 : Value) (n : Nat) (t : Slt) (w : World) (h : SG w v0 v1 v2 v3 e) (ht : e.sl[n]? = some t) (hfl : t.f.length = t.e.r.length) :
    Calls Try.prog 24 #[.agg #[v0, v1, v2, v3], .int .i64 n] w fun ed w' => ed = .returned (.bool (curOk e.base e.vers n t)) ∧ Up w w' := by
  have HB := Lib.hid h.base; have HV := Lib.hid h.vers
  obtain ⟨p0, c0, rfl, _, _⟩ := h.base.openc
  obtain ⟨p1, c1, rfl, _, _⟩ := h.acts.openc
  obtain ⟨p2, c2, rfl, _, _⟩ := h.vers.openc
  obtain ⟨p3, c3, rfl, _, hcs⟩ := h.sl.open
  obtain ⟨b, off, q0, d0, q1, d1, q2, d2, rfl, hb, ⟨e0, e1, e2, e3, e4, e5⟩, sf, sr, sw⟩ := hcs n t ht
  have hn0 : (0 : Int) ≤ (n : Int) := by omega
  have hn1 : (n : Int) < e.sl.length := by have := (List.getElem?_eq_some_iff.1 ht).1; omega
  obtain ⟨_, _, e9, _, hcr⟩ := sr.open
  cases e9
  obtain ⟨_, _, e9, _, hcf⟩ := sf.open
  cases e9
  have HCR := Lib.hid hcr; have HCF := Lib.hid hcf; have HFL := Lib.hid hfl
  clear h hcs ht sf sr sw hcr hcf hfl
  go_enter Try.func24, Try.ntmps24
  go_wp2_with fail
  go_loopw [6, 7, 8] (fun s6 _ _ wr => ∃ (k : Nat), s6 = .int .i64 k ∧ k ≤ t.e.r.length ∧ Up ((w.alloc (.cells #[.slice p0 e.base.length c0, .slice p1 e.acts.length c1, .slice p2 e.vers.length c2, .slice (some ⟨b, off, none⟩) e.sl.length c3] 28)).alloc (.cells #[.int .i64 t.st, .int .i64 t.tr, .slice q0 t.f.length d0, .bool t.e.d, .slice q1 t.e.r.length d1, .slice q2 t.e.w.length d2] 39)) wr ∧ upTo (curAt e.base e.vers n t.f t.e.r) k = true) (fun s6 _ _ _ => t.e.r.length - (intOf s6).toNat)
  case atStart => exact ⟨0, rfl, Nat.zero_le _, (.of (by repeat (first | (with_reducible exact Ext.refl _) | (with_reducible refine Ext.up ?_ _) | (with_reducible refine Ext.alloc ?_ _) | (with_reducible refine Ext.drew ?_) | (with_reducible refine Ext.setRow ?_ (by first | exact LeS.le | exact LeS.add _ | (simp; done) | (simp; omega)) _) | (with_reducible refine Ext.setCell ?_ (by first | exact LeS.le | exact LeS.add _ | (simp; done) | (simp; omega)) _)))), rfl⟩
  case round =>
    obtain ⟨k, rfl, hk, ⟨z, rfl⟩, hall⟩ := hrel
    have HALL := Lib.hid hall; clear hall
    by_cases hlt : k < t.e.r.length
    · obtain ⟨y, hy⟩ := getElem?_some_of_lt hlt
      obtain ⟨q, hq⟩ := getElem?_some_of_lt (l := t.f) (k := k) (by rw [HFL.out]; exact hlt)
      have Hat := Lib.hid (curAt_eq (s := e.base) (V := e.vers) (n := (n : Int)) hy hq)
      obtain ⟨g, fo, rfl, hbg, hcc⟩ := HCR.out k y hy
      obtain ⟨g5, fo5, rfl, hbg5, hcc5⟩ := HCF.out k q hq
      have y0 : w.cell? ⟨g, fo + k * 2, none⟩ = some (.int .i64 y.k) := hcc 0 _ rfl
      have y1 : w.cell? ⟨g, fo + k * 2 + 1, none⟩ = some (.int .i64 y.v) := hcc 1 _ rfl
      have y3 : w.cell? ⟨g5, fo5 + k, none⟩ = some (.int .i64 q) := by have := hcc5 0 _ rfl; simpa using this
      have krd := fun w h h' => l9Read_any e.base e.vers (.slice p0 e.base.length c0) (.slice p2 e.vers.length c2) y.k (n : Int) w h h'
      generalize readV (atK e.base y.k) e.vers y.k n = R at *
      obtain ⟨r1, r2⟩ := R
      dsimp only at *
      have ka0 : (0 : Int) ≤ (k : Int) := by omega
      have ka1 : (k : Int) < t.e.r.length := by omega
      have ka3 : (k : Int) < t.f.length := by rw [HFL.out]; exact ka1
      clear hy hq hcc hcc5
      rcases guards2 (r1 == y.v) (r2 == q) with g1 | ⟨g1, g2'⟩ | ⟨g1, g2'⟩
      · have g1' : (r1 != y.v) = true := by rw [bne, g1]; rfl
        have Hf := Lib.hid (upTo_false (f := curAt e.base e.vers n t.f t.e.r) hlt (by rw [Hat.out, g1]; rfl))
        clear g1
        go_wp2_with fail
        (refine wp_region_up (by kernel_rfl) (by kernel_rfl) ?_; (repeat (go_big_quiet_step ((go_at_call 55; exact Calls.up_same (krd _ (HB.out.up (by repeat (first | (with_reducible exact Ext.refl _) | (with_reducible refine Ext.up ?_ _) | (with_reducible refine Ext.alloc ?_ _) | (with_reducible refine Ext.drew ?_) | (with_reducible refine Ext.setRow ?_ (by first | exact LeS.le | exact LeS.add _ | (simp; done) | (simp; omega)) _) | (with_reducible refine Ext.setCell ?_ (by first | exact LeS.le | exact LeS.add _ | (simp; done) | (simp; omega)) _)))) (HV.out.up (by repeat (first | (with_reducible exact Ext.refl _) | (with_reducible refine Ext.up ?_ _) | (with_reducible refine Ext.alloc ?_ _) | (with_reducible refine Ext.drew ?_) | (with_reducible refine Ext.setRow ?_ (by first | exact LeS.le | exact LeS.add _ | (simp; done) | (simp; omega)) _) | (with_reducible refine Ext.setCell ?_ (by first | exact LeS.le | exact LeS.add _ | (simp; done) | (simp; omega)) _))))))))); refine wpQuiet_nil ?_; intro _ hw'; obtain ⟨zq, hw''⟩ := hw'; subst hw'')
        go_wp2_with fail
        go_ret
        exact ⟨by show _ = Ending.returned (.bool (upTo (curAt e.base e.vers n t.f t.e.r) t.e.r.length)); rw [Hf.out]; rfl, (.of (by repeat (first | (with_reducible exact Ext.refl _) | (with_reducible refine Ext.up ?_ _) | (with_reducible refine Ext.alloc ?_ _) | (with_reducible refine Ext.drew ?_) | (with_reducible refine Ext.setRow ?_ (by first | exact LeS.le | exact LeS.add _ | (simp; done) | (simp; omega)) _) | (with_reducible refine Ext.setCell ?_ (by first | exact LeS.le | exact LeS.add _ | (simp; done) | (simp; omega)) _))))⟩
      · have g1' : (r1 != y.v) = false := by rw [bne, g1]; rfl
        have g2'' : (r2 != q) = true := by rw [bne, g2']; rfl
        have Hf := Lib.hid (upTo_false (f := curAt e.base e.vers n t.f t.e.r) hlt (by rw [Hat.out, g1, g2']; rfl))
        clear g1 g2'
        go_wp2_with fail
        (refine wp_region_up (by kernel_rfl) (by kernel_rfl) ?_; (repeat (go_big_quiet_step ((go_at_call 55; exact Calls.up_same (krd _ (HB.out.up (by repeat (first | (with_reducible exact Ext.refl _) | (with_reducible refine Ext.up ?_ _) | (with_reducible refine Ext.alloc ?_ _) | (with_reducible refine Ext.drew ?_) | (with_reducible refine Ext.setRow ?_ (by first | exact LeS.le | exact LeS.add _ | (simp; done) | (simp; omega)) _) | (with_reducible refine Ext.setCell ?_ (by first | exact LeS.le | exact LeS.add _ | (simp; done) | (simp; omega)) _)))) (HV.out.up (by repeat (first | (with_reducible exact Ext.refl _) | (with_reducible refine Ext.up ?_ _) | (with_reducible refine Ext.alloc ?_ _) | (with_reducible refine Ext.drew ?_) | (with_reducible refine Ext.setRow ?_ (by first | exact LeS.le | exact LeS.add _ | (simp; done) | (simp; omega)) _) | (with_reducible refine Ext.setCell ?_ (by first | exact LeS.le | exact LeS.add _ | (simp; done) | (simp; omega)) _))))))))); refine wpQuiet_nil ?_; intro _ hw'; obtain ⟨zq, hw''⟩ := hw'; subst hw'')
        go_wp2_with fail
        go_ret
        exact ⟨by show _ = Ending.returned (.bool (upTo (curAt e.base e.vers n t.f t.e.r) t.e.r.length)); rw [Hf.out]; rfl, (.of (by repeat (first | (with_reducible exact Ext.refl _) | (with_reducible refine Ext.up ?_ _) | (with_reducible refine Ext.alloc ?_ _) | (with_reducible refine Ext.drew ?_) | (with_reducible refine Ext.setRow ?_ (by first | exact LeS.le | exact LeS.add _ | (simp; done) | (simp; omega)) _) | (with_reducible refine Ext.setCell ?_ (by first | exact LeS.le | exact LeS.add _ | (simp; done) | (simp; omega)) _))))⟩
      · have g1' : (r1 != y.v) = false := by rw [bne, g1]; rfl
        have g2'' : (r2 != q) = false := by rw [bne, g2']; rfl
        have Ht := Lib.hid (upTo_succ (f := curAt e.base e.vers n t.f t.e.r) HALL.out (by rw [Hat.out, g1, g2']; rfl))
        clear g1 g2'
        go_wp2_with fail
        (refine wp_region_up (by kernel_rfl) (by kernel_rfl) ?_; (repeat (go_big_quiet_step ((go_at_call 55; exact Calls.up_same (krd _ (HB.out.up (by repeat (first | (with_reducible exact Ext.refl _) | (with_reducible refine Ext.up ?_ _) | (with_reducible refine Ext.alloc ?_ _) | (with_reducible refine Ext.drew ?_) | (with_reducible refine Ext.setRow ?_ (by first | exact LeS.le | exact LeS.add _ | (simp; done) | (simp; omega)) _) | (with_reducible refine Ext.setCell ?_ (by first | exact LeS.le | exact LeS.add _ | (simp; done) | (simp; omega)) _)))) (HV.out.up (by repeat (first | (with_reducible exact Ext.refl _) | (with_reducible refine Ext.up ?_ _) | (with_reducible refine Ext.alloc ?_ _) | (with_reducible refine Ext.drew ?_) | (with_reducible refine Ext.setRow ?_ (by first | exact LeS.le | exact LeS.add _ | (simp; done) | (simp; omega)) _) | (with_reducible refine Ext.setCell ?_ (by first | exact LeS.le | exact LeS.add _ | (simp; done) | (simp; omega)) _))))))))); refine wpQuiet_nil ?_; intro _ hw'; obtain ⟨zq, hw''⟩ := hw'; subst hw'')
        go_wp2_with fail
        go_roundw
        case rel => exact ⟨k + 1, by go_num, by omega, (.of (by repeat (first | (with_reducible exact Ext.refl _) | (with_reducible refine Ext.up ?_ _) | (with_reducible refine Ext.alloc ?_ _) | (with_reducible refine Ext.drew ?_) | (with_reducible refine Ext.setRow ?_ (by first | exact LeS.le | exact LeS.add _ | (simp; done) | (simp; omega)) _) | (with_reducible refine Ext.setCell ?_ (by first | exact LeS.le | exact LeS.add _ | (simp; done) | (simp; omega)) _)))), Ht.out⟩
        case measure => simp [intOf] <;> omega
    · obtain rfl : k = t.e.r.length := by omega
      go_wp2_with fail
      go_ret
      exact ⟨by show _ = Ending.returned (.bool (upTo (curAt e.base e.vers n t.f t.e.r) t.e.r.length)); rw [HALL.out]; rfl, (.of (by repeat (first | (with_reducible exact Ext.refl _) | (with_reducible refine Ext.up ?_ _) | (with_reducible refine Ext.alloc ?_ _) | (with_reducible refine Ext.drew ?_) | (with_reducible refine Ext.setRow ?_ (by first | exact LeS.le | exact LeS.add _ | (simp; done) | (simp; omega)) _) | (with_reducible refine Ext.setCell ?_ (by first | exact LeS.le | exact LeS.add _ | (simp; done) | (simp; omega)) _))))⟩
end Go.Proofs.Ytnknamddonjnjaa
