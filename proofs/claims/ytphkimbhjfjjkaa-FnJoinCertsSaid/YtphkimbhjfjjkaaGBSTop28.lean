/- Plain law: certificates that are joined, halved and counted. Walks: drawn certificates, alone and in pairs; the laws FnCertValid and FnHalfCerts. Walks: the law FnCertCounts. Walks: the law FnJoinCerts. -/
import Derived.Test.YtphkimbhjfjjkaaGBSTop26
import Derived.Test.YtphkimbhjfjjkaaGBSTop27
import Derived.Test.YtphkimbhjfjjkaaGBSTop23
import Derived.Test.YtphkimbhjfjjkaaGBSTop25
set_option linter.unusedSimpArgs false
set_option linter.unusedVariables false
namespace Go.Proofs.Ytphkimbhjfjjkaa
open Go Go.RowKit Go.Proofs

def andI (x y : Int) : Int := bits BinOp.and IntKind.i64 x y
def crtChk : Bool := (List.range 16).all fun i => ((List.range 16).all fun j => decide (orI i j = orI j i) && (decide (0 ≤ orI i j) && (decide (orI i j ≤ 15) && decide (many i ≤ many (orI i j))))) && (decide (orI (andI i 5) (andI i 10) = i) && (decide (0 ≤ andI i 5 ∧ andI i 5 ≤ 15 ∧ many (andI i 5) ≤ 2) && decide (0 ≤ andI i 10 ∧ andI i 10 ≤ 15 ∧ many (andI i 10) ≤ 2)))
theorem crtChk_ok : crtChk = true := by kernel_rfl
theorem natOf15 {x : Int} (h0 : 0 ≤ x) (h1 : x ≤ 15) : ∃ i : Nat, i ∈ List.range 16 ∧ x = i := ⟨x.toNat, by simp; omega, by omega⟩
theorem or15 {x y : Int} (x0 : 0 ≤ x) (x1 : x ≤ 15) (y0 : 0 ≤ y) (y1 : y ≤ 15) : orI x y = orI y x ∧ 0 ≤ orI x y ∧ orI x y ≤ 15 ∧ many x ≤ many (orI x y) := by
  obtain ⟨i, hi, rfl⟩ := natOf15 x0 x1
  obtain ⟨j, hj, rfl⟩ := natOf15 y0 y1
  have h := List.all_eq_true.1 crtChk_ok i hi
  rw [Bool.and_eq_true] at h
  have h2 := List.all_eq_true.1 h.1 j hj
  simpa only [Bool.and_eq_true, decide_eq_true_eq] using h2
theorem half15 {x : Int} (x0 : 0 ≤ x) (x1 : x ≤ 15) : orI (andI x 5) (andI x 10) = x ∧ (0 ≤ andI x 5 ∧ andI x 5 ≤ 15 ∧ many (andI x 5) ≤ 2) ∧ (0 ≤ andI x 10 ∧ andI x 10 ≤ 15 ∧ many (andI x 10) ≤ 2) := by
  obtain ⟨i, hi, rfl⟩ := natOf15 x0 x1
  have h := List.all_eq_true.1 crtChk_ok i hi
  rw [Bool.and_eq_true] at h
  simpa only [Bool.and_eq_true, decide_eq_true_eq] using h.2
theorem Crt.ok_iff {c : Crt} : c.ok = true ↔ (0 ≤ c.s ∧ c.s ≤ 1000002) ∧ (0 ≤ c.v ∧ c.v ≤ 1000) ∧ (0 ≤ c.g ∧ c.g ≤ 15) := by
  simp only [Crt.ok, Bool.and_eq_true, inR_iff]
theorem joins_comm (a b : Crt) : b.joins a = a.joins b := by
  simp only [Crt.joins, eq_comm (a := b.s), eq_comm (a := b.v)]
  cases a.ok <;> cases b.ok <;> rfl
theorem joins_parts {a b : Crt} (h : a.joins b = true) : a.ok = true ∧ b.ok = true ∧ a.s = b.s ∧ a.v = b.v := by
  simpa only [Crt.joins, Bool.and_eq_true, decide_eq_true_eq] using h
theorem joinC_no {a b : Crt} (h : a.joins b = false) : joinC a b = ⟨0, 0, 0⟩ := by unfold joinC; rw [h]; rfl
theorem joinC_yes {a b : Crt} (h : a.joins b = true) : joinC a b = ⟨a.s, a.v, orI a.g b.g⟩ := by unfold joinC; rw [h]; rfl
theorem joinC_comm (a b : Crt) : joinC b a = joinC a b := by
  rcases h : a.joins b with _ | _
  · rw [joinC_no h, joinC_no (by rw [joins_comm]; exact h)]
  · obtain ⟨h1, h2, h3, h4⟩ := joins_parts h
    obtain ⟨_, _, a0, a1⟩ := Crt.ok_iff.1 h1
    obtain ⟨_, _, b0, b1⟩ := Crt.ok_iff.1 h2
    rw [joinC_yes h, joinC_yes (by rw [joins_comm]; exact h), (or15 b0 b1 a0 a1).1, h3, h4]
theorem joinC_ok {a b : Crt} (h : a.joins b = true) : (joinC a b).ok = true := by
  obtain ⟨h1, h2, h3, h4⟩ := joins_parts h
  obtain ⟨k1, k2, a0, a1⟩ := Crt.ok_iff.1 h1
  obtain ⟨_, _, b0, b1⟩ := Crt.ok_iff.1 h2
  have := or15 a0 a1 b0 b1
  rw [joinC_yes h]
  exact Crt.ok_iff.2 ⟨k1, k2, this.2.1, this.2.2.1⟩
theorem joinC_counts {a b : Crt} (h : a.joins b = true) (hc : a.counts = true) : (joinC a b).counts = true := by
  have hk := joinC_ok h
  obtain ⟨h1, h2, h3, h4⟩ := joins_parts h
  obtain ⟨k1, k2, a0, a1⟩ := Crt.ok_iff.1 h1
  obtain ⟨_, _, b0, b1⟩ := Crt.ok_iff.1 h2
  have := or15 a0 a1 b0 b1
  simp only [Crt.counts, Bool.and_eq_true, decide_eq_true_eq] at hc ⊢
  refine ⟨hk, ?_⟩
  rw [joinC_yes h]
  show 3 ≤ many (orI a.g b.g)
  omega
theorem joinC_counts' {a b : Crt} (h : a.joins b = true) (hc : b.counts = true) : (joinC a b).counts = true := by
  rw [← joinC_comm]
  exact joinC_counts (by rw [joins_comm]; exact h) hc
theorem halves {c : Crt} (h : c.ok = true) : Crt.joins ⟨c.s, c.v, andI c.g 5⟩ ⟨c.s, c.v, andI c.g 10⟩ = true ∧ joinC ⟨c.s, c.v, andI c.g 5⟩ ⟨c.s, c.v, andI c.g 10⟩ = c ∧ Crt.counts ⟨c.s, c.v, andI c.g 5⟩ = false ∧ Crt.counts ⟨c.s, c.v, andI c.g 10⟩ = false := by
  obtain ⟨k1, k2, a0, a1⟩ := Crt.ok_iff.1 h
  obtain ⟨e, ⟨x0, x1, x2⟩, ⟨y0, y1, y2⟩⟩ := half15 a0 a1
  have hx : Crt.ok ⟨c.s, c.v, andI c.g 5⟩ = true := Crt.ok_iff.2 ⟨k1, k2, x0, x1⟩
  have hy : Crt.ok ⟨c.s, c.v, andI c.g 10⟩ = true := Crt.ok_iff.2 ⟨k1, k2, y0, y1⟩
  have hj : Crt.joins ⟨c.s, c.v, andI c.g 5⟩ ⟨c.s, c.v, andI c.g 10⟩ = true := by simp [Crt.joins, hx, hy]
  refine ⟨hj, ?_, ?_, ?_⟩
  · rw [joinC_yes hj]
    show Crt.mk c.s c.v (orI (andI c.g 5) (andI c.g 10)) = c
    rw [e]
  · simp only [Crt.counts, hx, Bool.true_and, decide_eq_false_iff_not]; omega
  · simp only [Crt.counts, hy, Bool.true_and, decide_eq_false_iff_not]; omega
end Go.Proofs.Ytphkimbhjfjjkaa
namespace Go.Proofs.Ytphkimbhjfjjkaa
open Go Go.RowKit Go.Proofs

theorem ok16 (c : Crt) : Crt.ok ⟨c.s, c.v, 16⟩ = false := by
  simp [Crt.ok, inR]
set_option maxRecDepth 100000 in
theorem drawCertValid_any (bs : List Int) (v : Value) (w : World) (h : SL (RF encU) 1 w v bs) (hb : ∀ b ∈ bs, 0 ≤ b ∧ b ≤ 255) :
    Calls Try.prog 23 #[v] w fun e w' => ∃ c : Crt, e = .returned (.agg #[.int .i64 c.s, .int .i64 c.v, .int .i64 c.g]) ∧ Up w w' := by
  have H := Lib.hid h; clear h
  go_enter Try.func23, Try.ntmps23
  go_wp2_with fail
  refine (open_any bs v _ (H.out.up (by repeat (first | (with_reducible exact Ext.refl _) | (with_reducible refine Ext.up ?_ _) | (with_reducible refine Ext.alloc ?_ _) | (with_reducible refine Ext.drew ?_) | (with_reducible refine Ext.setRow ?_ (by first | exact LeS.le | exact LeS.add _ | (simp; done) | (simp; omega)) _) | (with_reducible refine Ext.setCell ?_ (by first | exact LeS.le | exact LeS.add _ | (simp; done) | (simp; omega)) _)))) hb).mono ?_; rintro e w' ⟨rb, rfl, ⟨z0, rfl⟩, hr⟩
  have H0 := Lib.hid hr
  have Hold := Lib.hid hr.old
  have Hlt := Lib.hid hr.lt
  clear hr
  go_wp2_with fail
  refine (tree0_any _ _ rb 0 H0.out (by omega)).mono ?_; rintro e w' ⟨u0, u1, u2, t, bs, rfl, hk, hc, ⟨z1, rfl⟩, hr, ho⟩
  go_wp2_with fail
  refine (cert_any _ _ rb _ _ 2 t _ _ _ bs hr (by omega) (by omega) (by omega) ho Hlt.out hc hk).mono ?_; rintro e w' ⟨c, rfl, ⟨z2, rfl⟩, hr2⟩
  have hz := z0.ext.size
  simp at hz
  have E : Ext (w.alloc (.cells #[.int .i64 0, .int .i64 0, .int .i64 0] 36)) z2.val := Ext.upR (Ext.upR z0.ext Hold.out z1) Hold.out z2
  clear ho hr hr2 hc hk
  obtain ⟨z3, hz3⟩ := Up.of E
  rw [hz3]
  clear hz3 E z2 z1
  go_wp2_with fail
  have r0 : z3.val.cell? ⟨w.heap.size, 0, none⟩ = some (.int .i64 0) := by go_simp
  have r1 : z3.val.cell? ⟨w.heap.size, 1, none⟩ = some (.int .i64 0) := by go_simp
  have r2 : z3.val.cell? ⟨w.heap.size, 2, none⟩ = some (.int .i64 0) := by go_simp
  refine bodyPost_ret (v := .agg #[.int .i64 c.s, .int .i64 c.v, .int .i64 c.g]) (by simp [results, Try.results23, go_sem, r0, r1, r2]) rfl ?_
  exact ⟨c, rfl, (.of (by repeat (first | (with_reducible exact Ext.refl _) | (with_reducible refine Ext.up ?_ _) | (with_reducible refine Ext.alloc ?_ _) | (with_reducible refine Ext.drew ?_) | (with_reducible refine Ext.setRow ?_ (by first | exact LeS.le | exact LeS.add _ | (simp; done) | (simp; omega)) _) | (with_reducible refine Ext.setCell ?_ (by first | exact LeS.le | exact LeS.add _ | (simp; done) | (simp; omega)) _))))⟩
set_option maxRecDepth 100000 in
set_option maxHeartbeats 2000000 in
theorem FnCertValid_any (bs : List Int) (v : Value) (w : World) (h : SL (RF encU) 1 w v bs) (hb : ∀ b ∈ bs, 0 ≤ b ∧ b ≤ 255) :
    Calls Try.prog 4 #[v] w fun e w' => e = .returned (.bool true) ∧ Up w w' := by
  have H := Lib.hid h
  obtain ⟨p, c, rfl, _, _⟩ := h.openc
  clear h
  by_cases hl : 1048576 < bs.length
  · go_enter Try.func4, Try.ntmps4
    go_wp2_with fail
    go_ret
    exact ⟨rfl, (.of (by repeat (first | (with_reducible exact Ext.refl _) | (with_reducible refine Ext.up ?_ _) | (with_reducible refine Ext.alloc ?_ _) | (with_reducible refine Ext.drew ?_) | (with_reducible refine Ext.setRow ?_ (by first | exact LeS.le | exact LeS.add _ | (simp; done) | (simp; omega)) _) | (with_reducible refine Ext.setCell ?_ (by first | exact LeS.le | exact LeS.add _ | (simp; done) | (simp; omega)) _))))⟩
  go_enter Try.func4, Try.ntmps4
  go_wp2_with fail
  refine (drawCertValid_any bs _ _ (H.out.up (by repeat (first | (with_reducible exact Ext.refl _) | (with_reducible refine Ext.up ?_ _) | (with_reducible refine Ext.alloc ?_ _) | (with_reducible refine Ext.drew ?_) | (with_reducible refine Ext.setRow ?_ (by first | exact LeS.le | exact LeS.add _ | (simp; done) | (simp; omega)) _) | (with_reducible refine Ext.setCell ?_ (by first | exact LeS.le | exact LeS.add _ | (simp; done) | (simp; omega)) _)))) hb).mono ?_; rintro e w' ⟨c, rfl, ⟨z0, rfl⟩⟩
  have ki := fun w => iCertValid_any c w
  have ks := fun w => sCertValid_any c w
  have kd := fun w => iCertValid_any ⟨c.s, c.v, 16⟩ w
  simp only [ok16] at kd
  rcases hok : c.ok with _ | _
  · simp only [hok] at ki ks
    clear hok
    go_wp2_with (first | (go_at_call 24; (with_reducible refine (ki _).mono ?_); rintro e w' ⟨rfl, z1, rfl⟩) | (go_at_call 25; refine (ks _).mono ?_; rintro e w' ⟨rfl, z2, rfl⟩) | (go_at_call 24; (with_reducible refine (kd _).mono ?_); rintro e w' ⟨rfl, z3, rfl⟩) | (go_at_call 20; refine (alive_any _).mono ?_; rintro e w' ⟨rfl, z4, rfl⟩))
    go_ret
    exact ⟨rfl, (.of (by repeat (first | (with_reducible exact Ext.refl _) | (with_reducible refine Ext.up ?_ _) | (with_reducible refine Ext.alloc ?_ _) | (with_reducible refine Ext.drew ?_) | (with_reducible refine Ext.setRow ?_ (by first | exact LeS.le | exact LeS.add _ | (simp; done) | (simp; omega)) _) | (with_reducible refine Ext.setCell ?_ (by first | exact LeS.le | exact LeS.add _ | (simp; done) | (simp; omega)) _))))⟩
  simp only [hok] at ki ks
  clear hok
  go_wp2_with (first | (go_at_call 24; (with_reducible refine (ki _).mono ?_); rintro e w' ⟨rfl, z1, rfl⟩) | (go_at_call 25; refine (ks _).mono ?_; rintro e w' ⟨rfl, z2, rfl⟩) | (go_at_call 24; (with_reducible refine (kd _).mono ?_); rintro e w' ⟨rfl, z3, rfl⟩) | (go_at_call 20; refine (alive_any _).mono ?_; rintro e w' ⟨rfl, z4, rfl⟩))
  go_ret
  exact ⟨rfl, (.of (by repeat (first | (with_reducible exact Ext.refl _) | (with_reducible refine Ext.up ?_ _) | (with_reducible refine Ext.alloc ?_ _) | (with_reducible refine Ext.drew ?_) | (with_reducible refine Ext.setRow ?_ (by first | exact LeS.le | exact LeS.add _ | (simp; done) | (simp; omega)) _) | (with_reducible refine Ext.setCell ?_ (by first | exact LeS.le | exact LeS.add _ | (simp; done) | (simp; omega)) _))))⟩
set_option maxRecDepth 100000 in
theorem drawCertCounts_any (bs : List Int) (v : Value) (w : World) (h : SL (RF encU) 1 w v bs) (hb : ∀ b ∈ bs, 0 ≤ b ∧ b ≤ 255) :
    Calls Try.prog 39 #[v] w fun e w' => ∃ c : Crt, e = .returned (.agg #[.int .i64 c.s, .int .i64 c.v, .int .i64 c.g]) ∧ Up w w' := by
  have H := Lib.hid h; clear h
  go_enter Try.func39, Try.ntmps39
  go_wp2_with fail
  refine (open_any bs v _ (H.out.up (by repeat (first | (with_reducible exact Ext.refl _) | (with_reducible refine Ext.up ?_ _) | (with_reducible refine Ext.alloc ?_ _) | (with_reducible refine Ext.drew ?_) | (with_reducible refine Ext.setRow ?_ (by first | exact LeS.le | exact LeS.add _ | (simp; done) | (simp; omega)) _) | (with_reducible refine Ext.setCell ?_ (by first | exact LeS.le | exact LeS.add _ | (simp; done) | (simp; omega)) _)))) hb).mono ?_; rintro e w' ⟨rb, rfl, ⟨z0, rfl⟩, hr⟩
  have H0 := Lib.hid hr
  have Hold := Lib.hid hr.old
  have Hlt := Lib.hid hr.lt
  clear hr
  go_wp2_with fail
  refine (tree0_any _ _ rb 0 H0.out (by omega)).mono ?_; rintro e w' ⟨u0, u1, u2, t, bs, rfl, hk, hc, ⟨z1, rfl⟩, hr, ho⟩
  go_wp2_with fail
  refine (cert_any _ _ rb _ _ 6 t _ _ _ bs hr (by omega) (by omega) (by omega) ho Hlt.out hc hk).mono ?_; rintro e w' ⟨c, rfl, ⟨z2, rfl⟩, hr2⟩
  have hz := z0.ext.size
  simp at hz
  have E : Ext (w.alloc (.cells #[.int .i64 0, .int .i64 0, .int .i64 0] 36)) z2.val := Ext.upR (Ext.upR z0.ext Hold.out z1) Hold.out z2
  clear ho hr hr2 hc hk
  obtain ⟨z3, hz3⟩ := Up.of E
  rw [hz3]
  clear hz3 E z2 z1
  go_wp2_with fail
  have r0 : z3.val.cell? ⟨w.heap.size, 0, none⟩ = some (.int .i64 0) := by go_simp
  have r1 : z3.val.cell? ⟨w.heap.size, 1, none⟩ = some (.int .i64 0) := by go_simp
  have r2 : z3.val.cell? ⟨w.heap.size, 2, none⟩ = some (.int .i64 0) := by go_simp
  refine bodyPost_ret (v := .agg #[.int .i64 c.s, .int .i64 c.v, .int .i64 c.g]) (by simp [results, Try.results39, go_sem, r0, r1, r2]) rfl ?_
  exact ⟨c, rfl, (.of (by repeat (first | (with_reducible exact Ext.refl _) | (with_reducible refine Ext.up ?_ _) | (with_reducible refine Ext.alloc ?_ _) | (with_reducible refine Ext.drew ?_) | (with_reducible refine Ext.setRow ?_ (by first | exact LeS.le | exact LeS.add _ | (simp; done) | (simp; omega)) _) | (with_reducible refine Ext.setCell ?_ (by first | exact LeS.le | exact LeS.add _ | (simp; done) | (simp; omega)) _))))⟩
set_option maxRecDepth 100000 in
set_option maxHeartbeats 2000000 in
theorem FnHalfCerts_any (bs : List Int) (v : Value) (w : World) (h : SL (RF encU) 1 w v bs) (hb : ∀ b ∈ bs, 0 ≤ b ∧ b ≤ 255) :
    Calls Try.prog 9 #[v] w fun e w' => e = .returned (.bool true) ∧ Up w w' := by
  have H := Lib.hid h
  obtain ⟨p, c, rfl, _, _⟩ := h.openc
  clear h
  by_cases hl : 1048576 < bs.length
  · go_enter Try.func9, Try.ntmps9
    go_wp2_with fail
    go_ret
    exact ⟨rfl, (.of (by repeat (first | (with_reducible exact Ext.refl _) | (with_reducible refine Ext.up ?_ _) | (with_reducible refine Ext.alloc ?_ _) | (with_reducible refine Ext.drew ?_) | (with_reducible refine Ext.setRow ?_ (by first | exact LeS.le | exact LeS.add _ | (simp; done) | (simp; omega)) _) | (with_reducible refine Ext.setCell ?_ (by first | exact LeS.le | exact LeS.add _ | (simp; done) | (simp; omega)) _))))⟩
  go_enter Try.func9, Try.ntmps9
  go_wp2_with fail
  refine (drawCertCounts_any bs _ _ (H.out.up (by repeat (first | (with_reducible exact Ext.refl _) | (with_reducible refine Ext.up ?_ _) | (with_reducible refine Ext.alloc ?_ _) | (with_reducible refine Ext.drew ?_) | (with_reducible refine Ext.setRow ?_ (by first | exact LeS.le | exact LeS.add _ | (simp; done) | (simp; omega)) _) | (with_reducible refine Ext.setCell ?_ (by first | exact LeS.le | exact LeS.add _ | (simp; done) | (simp; omega)) _)))) hb).mono ?_; rintro e w' ⟨c, rfl, ⟨z0, rfl⟩⟩
  have ki := fun w => iCertCounts_any c w
  have ks := fun w => sCertCounts_any c w
  have kv := fun w => sCertValid_any c w
  generalize hcc : c.counts = cc at ki ks
  rcases hok : c.ok with _ | _
  · simp only [hok] at kv
    clear hok hcc
    rcases cc with _ | _
    all_goals
     go_upto_region 4 with fail
     (refine wp_region_up (by kernel_rfl) (by kernel_rfl) ?_; (repeat (go_big_quiet_step (first | (go_at_call 40; exact Calls.up (ki _)) | (go_at_call 41; exact Calls.up (ks _))))); refine wpQuiet_nil ?_; intro _ hw'; obtain ⟨zq, hw''⟩ := hw'; subst hw'')
     go_wp2_with (first | (go_at_call 25; refine (kv _).mono ?_; rintro e w' ⟨rfl, z3, rfl⟩) | (go_at_call 20; refine (alive_any _).mono ?_; rintro e w' ⟨rfl, z4, rfl⟩))
     go_ret
     exact ⟨rfl, (.of (by repeat (first | (with_reducible exact Ext.refl _) | (with_reducible refine Ext.up ?_ _) | (with_reducible refine Ext.alloc ?_ _) | (with_reducible refine Ext.drew ?_) | (with_reducible refine Ext.setRow ?_ (by first | exact LeS.le | exact LeS.add _ | (simp; done) | (simp; omega)) _) | (with_reducible refine Ext.setCell ?_ (by first | exact LeS.le | exact LeS.add _ | (simp; done) | (simp; omega)) _))))⟩
  obtain ⟨hj, he, ha, hb2⟩ := halves hok
  have kj := fun w => iJoinCerts_any ⟨c.s, c.v, andI c.g 5⟩ ⟨c.s, c.v, andI c.g 10⟩ w
  have ka := fun w => iCertCounts_any ⟨c.s, c.v, andI c.g 5⟩ w
  have kb := fun w => iCertCounts_any ⟨c.s, c.v, andI c.g 10⟩ w
  simp only [hj, he] at kj
  simp only [ha] at ka
  simp only [hb2] at kb
  simp only [hok] at kv
  obtain ⟨x5, hx5⟩ : ∃ x5, bits BinOp.and IntKind.i64 c.g 5 = x5 := ⟨_, rfl⟩
  obtain ⟨x10, hx10⟩ : ∃ x10, bits BinOp.and IntKind.i64 c.g 10 = x10 := ⟨_, rfl⟩
  simp only [andI, hx5, hx10] at kj ka kb
  clear hok hcc hj he ha hb2
  rcases cc with _ | _
  all_goals
   go_upto_region 4 with fail
   (refine wp_region_up (by kernel_rfl) (by kernel_rfl) ?_; (repeat (go_big_quiet_step (first | (go_at_call 40; exact Calls.up (ki _)) | (go_at_call 41; exact Calls.up (ks _))))); refine wpQuiet_nil ?_; intro _ hw'; obtain ⟨zq, hw''⟩ := hw'; subst hw'')
   go_wp2_with (first | (go_at_call 25; refine (kv _).mono ?_; rintro e w' ⟨rfl, z3, rfl⟩) | (go_at_call 42; refine (kj _).mono ?_; rintro e w' ⟨rfl, z4, rfl⟩) | (go_at_call 40; (with_reducible refine (ka _).mono ?_); rintro e w' ⟨rfl, z5, rfl⟩) | (go_at_call 40; (with_reducible refine (kb _).mono ?_); rintro e w' ⟨rfl, z6, rfl⟩))
   go_ret
   exact ⟨rfl, (.of (by repeat (first | (with_reducible exact Ext.refl _) | (with_reducible refine Ext.up ?_ _) | (with_reducible refine Ext.alloc ?_ _) | (with_reducible refine Ext.drew ?_) | (with_reducible refine Ext.setRow ?_ (by first | exact LeS.le | exact LeS.add _ | (simp; done) | (simp; omega)) _) | (with_reducible refine Ext.setCell ?_ (by first | exact LeS.le | exact LeS.add _ | (simp; done) | (simp; omega)) _))))⟩
end Go.Proofs.Ytphkimbhjfjjkaa
namespace Go.Proofs.Ytphkimbhjfjjkaa
open Go Go.RowKit Go.Proofs

def metChk : Bool := (List.range 16).all fun i => (List.range 16).all fun j => (decide (0 ≤ andI i j) && decide (andI i j ≤ 15)) && (!(decide (3 ≤ many i) && decide (3 ≤ many j)) || (decide (andI i j = 3) || decide (andI i j = 5) || decide (andI i j = 6) || decide (andI i j = 7) || decide (andI i j = 9) || decide (andI i j = 10) || decide (andI i j = 11) || decide (andI i j = 12) || decide (andI i j = 13) || decide (andI i j = 14) || decide (andI i j = 15)))
theorem metChk_ok : metChk = true := by kernel_rfl
theorem met15 {x y : Int} (x0 : 0 ≤ x) (x1 : x ≤ 15) (y0 : 0 ≤ y) (y1 : y ≤ 15) : (0 ≤ andI x y ∧ andI x y ≤ 15) ∧ (3 ≤ many x → 3 ≤ many y → andI x y = 3 ∨ andI x y = 5 ∨ andI x y = 6 ∨ andI x y = 7 ∨ andI x y = 9 ∨ andI x y = 10 ∨ andI x y = 11 ∨ andI x y = 12 ∨ andI x y = 13 ∨ andI x y = 14 ∨ andI x y = 15) := by
  obtain ⟨i, hi, rfl⟩ := natOf15 x0 x1
  obtain ⟨j, hj, rfl⟩ := natOf15 y0 y1
  have h := List.all_eq_true.1 (List.all_eq_true.1 metChk_ok i hi) j hj
  rw [Bool.and_eq_true] at h
  refine ⟨by simpa using h.1, fun h3 h4 => ?_⟩
  have h5 := h.2
  simp only [h3, h4, decide_true, Bool.and_self, Bool.not_true, Bool.false_or, Bool.or_eq_true, decide_eq_true_eq] at h5
  omega
theorem counts_parts {c : Crt} (h : c.counts = true) : c.ok = true ∧ 3 ≤ many c.g := by
  simpa only [Crt.counts, Bool.and_eq_true, decide_eq_true_eq] using h
theorem counts15 {c : Crt} (h : c.counts = true) : Crt.counts ⟨c.s, c.v, 15⟩ = true := by
  obtain ⟨hk, _⟩ := counts_parts h
  obtain ⟨k1, k2, _⟩ := Crt.ok_iff.1 hk
  have : Crt.ok ⟨c.s, c.v, 15⟩ = true := Crt.ok_iff.2 ⟨k1, k2, by show (0 : Int) ≤ 15; omega, by show (15 : Int) ≤ 15; omega⟩
  have h15 : many 15 = 4 := by kernel_rfl
  simp only [Crt.counts, this, Bool.true_and, h15]
  rfl
set_option maxRecDepth 100000 in
set_option maxHeartbeats 4000000 in
theorem FnCertCounts_any (bs : List Int) (v : Value) (w : World) (h : SL (RF encU) 1 w v bs) (hb : ∀ b ∈ bs, 0 ≤ b ∧ b ≤ 255) :
    Calls Try.prog 8 #[v] w fun e w' => e = .returned (.bool true) ∧ Up w w' := by
  have H := Lib.hid h
  obtain ⟨p, c, rfl, _, _⟩ := h.openc
  clear h
  by_cases hl : 1048576 < bs.length
  · go_enter Try.func8, Try.ntmps8
    go_wp2_with fail
    go_ret
    exact ⟨rfl, (.of (by repeat (first | (with_reducible exact Ext.refl _) | (with_reducible refine Ext.up ?_ _) | (with_reducible refine Ext.alloc ?_ _) | (with_reducible refine Ext.drew ?_) | (with_reducible refine Ext.setRow ?_ (by first | exact LeS.le | exact LeS.add _ | (simp; done) | (simp; omega)) _) | (with_reducible refine Ext.setCell ?_ (by first | exact LeS.le | exact LeS.add _ | (simp; done) | (simp; omega)) _))))⟩
  go_enter Try.func8, Try.ntmps8
  go_wp2_with fail
  refine (drawCertCounts_any bs _ _ (H.out.up (by repeat (first | (with_reducible exact Ext.refl _) | (with_reducible refine Ext.up ?_ _) | (with_reducible refine Ext.alloc ?_ _) | (with_reducible refine Ext.drew ?_) | (with_reducible refine Ext.setRow ?_ (by first | exact LeS.le | exact LeS.add _ | (simp; done) | (simp; omega)) _) | (with_reducible refine Ext.setCell ?_ (by first | exact LeS.le | exact LeS.add _ | (simp; done) | (simp; omega)) _)))) hb).mono ?_; rintro e w' ⟨c, rfl, ⟨z0, rfl⟩⟩
  have ki := fun w => iCertCounts_any c w
  have ks := fun w => sCertCounts_any c w
  rcases hcc : c.counts with _ | _
  · simp only [hcc] at ki ks
    clear hcc
    go_wp2_with (first | (go_at_call 40; refine (ki _).mono ?_; rintro e w' ⟨rfl, z1, rfl⟩) | (go_at_call 41; refine (ks _).mono ?_; rintro e w' ⟨rfl, z2, rfl⟩) | (go_at_call 20; refine (alive_any _).mono ?_; rintro e w' ⟨rfl, z4, rfl⟩))
    go_ret
    exact ⟨rfl, (.of (by repeat (first | (with_reducible exact Ext.refl _) | (with_reducible refine Ext.up ?_ _) | (with_reducible refine Ext.alloc ?_ _) | (with_reducible refine Ext.drew ?_) | (with_reducible refine Ext.setRow ?_ (by first | exact LeS.le | exact LeS.add _ | (simp; done) | (simp; omega)) _) | (with_reducible refine Ext.setCell ?_ (by first | exact LeS.le | exact LeS.add _ | (simp; done) | (simp; omega)) _))))⟩
  simp only [hcc] at ki ks
  obtain ⟨hok, hm3⟩ := counts_parts hcc
  obtain ⟨_, _, g0, g1⟩ := Crt.ok_iff.1 hok
  have HCC := Lib.hid hcc
  have HM3 := Lib.hid hm3
  clear hcc hok hm3
  go_wp2_with (first | (go_at_call 40; refine (ki _).mono ?_; rintro e w' ⟨rfl, z1, rfl⟩) | (go_at_call 41; refine (ks _).mono ?_; rintro e w' ⟨rfl, z2, rfl⟩))
  go_loopw [5] (fun s5 wr => ∃ (k : Nat), s5 = .int .i64 k ∧ k ≤ 16 ∧ Up z2.val wr) (fun s5 _ => 16 - (intOf s5).toNat)
  case atStart => exact ⟨0, rfl, by omega, (.of (by repeat (first | (with_reducible exact Ext.refl _) | (with_reducible refine Ext.up ?_ _) | (with_reducible refine Ext.alloc ?_ _) | (with_reducible refine Ext.drew ?_) | (with_reducible refine Ext.setRow ?_ (by first | exact LeS.le | exact LeS.add _ | (simp; done) | (simp; omega)) _) | (with_reducible refine Ext.setCell ?_ (by first | exact LeS.le | exact LeS.add _ | (simp; done) | (simp; omega)) _))))⟩
  case round =>
    obtain ⟨k, rfl, hk, ⟨z, rfl⟩⟩ := hrel
    by_cases hlt : k < 16
    · have kd := fun w => iCertCounts_any ⟨c.s, c.v, (k : Int)⟩ w
      obtain ⟨⟨b0, b1⟩, hmet⟩ := met15 (x := (k : Int)) (y := c.g) (by omega) (by omega) g0 g1
      have hd : Crt.counts ⟨c.s, c.v, (k : Int)⟩ = true → 3 ≤ many (k : Int) := fun h => (counts_parts h).2
      generalize Crt.counts ⟨c.s, c.v, (k : Int)⟩ = dc at kd hd
      obtain ⟨bo, hbo⟩ : ∃ bo, andI (k : Int) c.g = bo := ⟨_, rfl⟩
      rw [hbo] at b0 b1 hmet
      have hbo2 : bits BinOp.and IntKind.i64 (k : Int) c.g = bo := hbo
      have k0 : (0 : Int) ≤ (k : Int) := by omega
      have k1 : (k : Int) < 16 := by omega
      clear hbo
      rcases dc with _ | _
      · clear hd hmet
        go_wp2_with (go_at_call 40; refine (kd _).mono ?_; rintro e w' ⟨rfl, z3, rfl⟩)
        go_roundw
        case rel => exact ⟨k + 1, by go_num, by omega, (.of (by repeat (first | (with_reducible exact Ext.refl _) | (with_reducible refine Ext.up ?_ _) | (with_reducible refine Ext.alloc ?_ _) | (with_reducible refine Ext.drew ?_) | (with_reducible refine Ext.setRow ?_ (by first | exact LeS.le | exact LeS.add _ | (simp; done) | (simp; omega)) _) | (with_reducible refine Ext.setCell ?_ (by first | exact LeS.le | exact LeS.add _ | (simp; done) | (simp; omega)) _))))⟩
        case measure => simp [intOf]; omega
      · have hall := hmet (hd rfl) HM3.out
        clear hd hmet b0 b1
        rcases hall with rfl | rfl | rfl | rfl | rfl | rfl | rfl | rfl | rfl | rfl | rfl
        all_goals
          go_wp2_with (go_at_call 40; refine (kd _).mono ?_; rintro e w' ⟨rfl, z3, rfl⟩)
          go_roundw
          case rel => exact ⟨k + 1, by go_num, by omega, (.of (by repeat (first | (with_reducible exact Ext.refl _) | (with_reducible refine Ext.up ?_ _) | (with_reducible refine Ext.alloc ?_ _) | (with_reducible refine Ext.drew ?_) | (with_reducible refine Ext.setRow ?_ (by first | exact LeS.le | exact LeS.add _ | (simp; done) | (simp; omega)) _) | (with_reducible refine Ext.setCell ?_ (by first | exact LeS.le | exact LeS.add _ | (simp; done) | (simp; omega)) _))))⟩
          case measure => simp [intOf]; omega
    · obtain rfl : k = 16 := by omega
      have kv := fun w => iCertValid_any c w
      have kf := fun w => iCertCounts_any ⟨c.s, c.v, 15⟩ w
      simp only [(counts_parts HCC.out).1] at kv
      simp only [counts15 HCC.out] at kf
      go_wp2_with (first | (go_at_call 24; refine (kv _).mono ?_; rintro e w' ⟨rfl, z3, rfl⟩) | (go_at_call 40; refine (kf _).mono ?_; rintro e w' ⟨rfl, z4, rfl⟩))
      go_ret
      exact ⟨rfl, (.of (by repeat (first | (with_reducible exact Ext.refl _) | (with_reducible refine Ext.up ?_ _) | (with_reducible refine Ext.alloc ?_ _) | (with_reducible refine Ext.drew ?_) | (with_reducible refine Ext.setRow ?_ (by first | exact LeS.le | exact LeS.add _ | (simp; done) | (simp; omega)) _) | (with_reducible refine Ext.setCell ?_ (by first | exact LeS.le | exact LeS.add _ | (simp; done) | (simp; omega)) _))))⟩
end Go.Proofs.Ytphkimbhjfjjkaa
namespace Go.Proofs.Ytphkimbhjfjjkaa
open Go Go.RowKit Go.Proofs

set_option maxRecDepth 100000 in
set_option maxHeartbeats 2000000 in
theorem drawJoinCerts_any (bs : List Int) (v : Value) (w : World) (h : SL (RF encU) 1 w v bs) (hb : ∀ b ∈ bs, 0 ≤ b ∧ b ≤ 255) :
    Calls Try.prog 43 #[v] w fun e w' => ∃ a b : Crt, e = .returned (.tuple #[.agg #[.int .i64 a.s, .int .i64 a.v, .int .i64 a.g], .agg #[.int .i64 b.s, .int .i64 b.v, .int .i64 b.g]]) ∧ Up w w' := by
  have H := Lib.hid h; clear h
  go_enter Try.func43, Try.ntmps43
  go_wp2_with fail
  refine (open_any bs v _ (H.out.up (by repeat (first | (with_reducible exact Ext.refl _) | (with_reducible refine Ext.up ?_ _) | (with_reducible refine Ext.alloc ?_ _) | (with_reducible refine Ext.drew ?_) | (with_reducible refine Ext.setRow ?_ (by first | exact LeS.le | exact LeS.add _ | (simp; done) | (simp; omega)) _) | (with_reducible refine Ext.setCell ?_ (by first | exact LeS.le | exact LeS.add _ | (simp; done) | (simp; omega)) _)))) hb).mono ?_; rintro e w' ⟨rb, rfl, ⟨z0, rfl⟩, hr⟩
  have H0 := Lib.hid hr
  have Hold := Lib.hid hr.old
  have hold := hr.old
  have hlt := hr.lt
  have hz := z0.ext.size
  simp at hz hold
  clear hr
  go_wp2_with fail
  refine (tree0_any _ _ rb 0 H0.out (by omega)).mono ?_; rintro e w' ⟨u0, u1, u2, t, bs, rfl, hk, hc, ⟨z1, rfl⟩, hr, ho⟩
  obtain ⟨p0, c0, rfl, _, _⟩ := (ho.obase.sl Ent.enc_length).openc
  obtain ⟨p1, c1, rfl, _, _⟩ := (ho.obs.1.sl TB.enc_length).openc
  obtain ⟨p2, c2, rfl, _, _⟩ := (ho.opr.sl encI_length).openc
  have h1 := z1.grown.size
  have H1 := Lib.hid hr; have HO := Lib.hid ho; have HK := Lib.hid hk; have HC := Lib.hid hc
  have hL1 : LtS rb z1.val := ⟨hr.lt⟩
  clear hr ho hk hc
  go_wp2_with fail
  refine (cert_any _ _ rb z0.val.heap.size _ 9 t _ _ _ bs (H1.out.up (by repeat (first | (with_reducible exact Ext.refl _) | (with_reducible refine Ext.up ?_ _) | (with_reducible refine Ext.alloc ?_ _) | (with_reducible refine Ext.drew ?_) | (with_reducible refine Ext.setRow ?_ (by first | exact LeS.le | exact LeS.add _ | (simp; done) | (simp; omega)) _) | (with_reducible refine Ext.setCell ?_ (by first | exact LeS.le | exact LeS.add _ | (simp; done) | (simp; omega)) _)))) (by omega) (by omega) (by omega) (HO.out.up (by repeat (first | (with_reducible exact Ext.refl _) | (with_reducible refine Ext.up ?_ _) | (with_reducible refine Ext.alloc ?_ _) | (with_reducible refine Ext.drew ?_) | (with_reducible refine Ext.setRow ?_ (by first | exact LeS.le | exact LeS.add _ | (simp; done) | (simp; omega)) _) | (with_reducible refine Ext.setCell ?_ (by first | exact LeS.le | exact LeS.add _ | (simp; done) | (simp; omega)) _)))) hlt HC.out HK.out).mono ?_; rintro e w' ⟨a, rfl, ⟨z2, rfl⟩, hr2⟩
  have h2 := z2.grown.size
  simp at h2
  have hN1 : NeS z1.val.heap.size rb := ⟨by omega⟩
  have H2 := Lib.hid hr2; have HO2 := Lib.hid ((HO.out.up (w' := z1.val.alloc (.cells #[.slice p0 t.base.length c0, .slice p1 bs.length c1, .slice p2 t.pr.length c2] 42)) (by repeat (first | (with_reducible exact Ext.refl _) | (with_reducible refine Ext.up ?_ _) | (with_reducible refine Ext.alloc ?_ _) | (with_reducible refine Ext.drew ?_) | (with_reducible refine Ext.setRow ?_ (by first | exact LeS.le | exact LeS.add _ | (simp; done) | (simp; omega)) _) | (with_reducible refine Ext.setCell ?_ (by first | exact LeS.le | exact LeS.add _ | (simp; done) | (simp; omega)) _)))).upR hlt z2)
  have hL2 : LtS rb z2.val := ⟨hr2.lt⟩
  clear hr2
  go_wp2_with fail
  refine (cert_any _ _ rb z0.val.heap.size _ 9 t _ _ _ bs (H2.out.up (by repeat (first | (with_reducible exact Ext.refl _) | (with_reducible refine Ext.up ?_ _) | (with_reducible refine Ext.alloc ?_ _) | (with_reducible refine Ext.drew ?_) | (with_reducible refine Ext.setRow ?_ (by first | exact LeS.le | exact LeS.add _ | (simp; done) | (simp; omega)) _) | (with_reducible refine Ext.setCell ?_ (by first | exact LeS.le | exact LeS.add _ | (simp; done) | (simp; omega)) _)))) (by omega) (by omega) (by omega) (HO2.out.up (by repeat (first | (with_reducible exact Ext.refl _) | (with_reducible refine Ext.up ?_ _) | (with_reducible refine Ext.alloc ?_ _) | (with_reducible refine Ext.drew ?_) | (with_reducible refine Ext.setRow ?_ (by first | exact LeS.le | exact LeS.add _ | (simp; done) | (simp; omega)) _) | (with_reducible refine Ext.setCell ?_ (by first | exact LeS.le | exact LeS.add _ | (simp; done) | (simp; omega)) _)))) hlt HC.out HK.out).mono ?_; rintro e w' ⟨b, rfl, ⟨z3, rfl⟩, hr3⟩
  have h3 := z3.grown.size
  simp at h3
  have hN2 : NeS z2.val.heap.size rb := ⟨by omega⟩
  have H3 := Lib.hid hr3
  have hL3 : LtS rb z3.val := ⟨hr3.lt⟩
  clear hr3
  go_wp2_with fail
  refine (pick_any _ _ rb _ 3 (H3.out.up (by repeat (first | (with_reducible exact Ext.refl _) | (with_reducible refine Ext.up ?_ _) | (with_reducible refine Ext.alloc ?_ _) | (with_reducible refine Ext.drew ?_) | (with_reducible refine Ext.setRow ?_ (by first | exact LeS.le | exact LeS.add _ | (simp; done) | (simp; omega)) _) | (with_reducible refine Ext.setCell ?_ (by first | exact LeS.le | exact LeS.add _ | (simp; done) | (simp; omega)) _)))) (by omega) (by omega) (by omega)).mono ?_; rintro e w' ⟨q, rfl, q0, q1, _, ⟨z4, rfl⟩, hr4⟩
  have hN3 : NeS z3.val.heap.size rb := ⟨by omega⟩
  have hR0 : NeS w.heap.size rb := ⟨by omega⟩
  have hR1 : NeS (w.heap.size + 1) rb := ⟨by omega⟩
  have E : Ext ((w.alloc (.cells #[.int .i64 0, .int .i64 0, .int .i64 0] 36)).alloc (.cells #[.int .i64 0, .int .i64 0, .int .i64 0] 36)) z4.val := Ext.upR ((Ext.upR ((Ext.upR ((Ext.upR z0.ext Hold.out z1).alloc _) Hold.out z2).alloc _) Hold.out z3).alloc _) Hold.out z4
  clear hr4
  have k0 : z4.val.cell? ⟨z2.val.heap.size, 0, none⟩ = some (.int .i64 a.s) := by go_simp
  have k1 : z4.val.cell? ⟨z2.val.heap.size, 1, none⟩ = some (.int .i64 a.v) := by go_simp
  have k2 : z4.val.cell? ⟨z2.val.heap.size, 2, none⟩ = some (.int .i64 a.g) := by go_simp
  have l0 : z4.val.cell? ⟨z3.val.heap.size, 0, none⟩ = some (.int .i64 b.s) := by go_simp
  have l1 : z4.val.cell? ⟨z3.val.heap.size, 1, none⟩ = some (.int .i64 b.v) := by go_simp
  have l2 : z4.val.cell? ⟨z3.val.heap.size, 2, none⟩ = some (.int .i64 b.g) := by go_simp
  have lf0 : z4.val.frozen? ⟨z3.val.heap.size, 0, none⟩ = false := by go_simp
  have lf1 : z4.val.frozen? ⟨z3.val.heap.size, 1, none⟩ = false := by go_simp
  have r0 : z4.val.cell? ⟨w.heap.size, 0, none⟩ = some (.int .i64 0) := by go_simp
  have r1 : z4.val.cell? ⟨w.heap.size, 1, none⟩ = some (.int .i64 0) := by go_simp
  have r2 : z4.val.cell? ⟨w.heap.size, 2, none⟩ = some (.int .i64 0) := by go_simp
  have s0 : z4.val.cell? ⟨w.heap.size + 1, 0, none⟩ = some (.int .i64 0) := by go_simp
  have s1 : z4.val.cell? ⟨w.heap.size + 1, 1, none⟩ = some (.int .i64 0) := by go_simp
  have s2 : z4.val.cell? ⟨w.heap.size + 1, 2, none⟩ = some (.int .i64 0) := by go_simp
  have rf0 : z4.val.frozen? ⟨w.heap.size, 0, none⟩ = false := by go_simp
  have rf1 : z4.val.frozen? ⟨w.heap.size, 1, none⟩ = false := by go_simp
  have rf2 : z4.val.frozen? ⟨w.heap.size, 2, none⟩ = false := by go_simp
  have sf0 : z4.val.frozen? ⟨w.heap.size + 1, 0, none⟩ = false := by go_simp
  have sf1 : z4.val.frozen? ⟨w.heap.size + 1, 1, none⟩ = false := by go_simp
  have sf2 : z4.val.frozen? ⟨w.heap.size + 1, 2, none⟩ = false := by go_simp
  have g2 : w.heap.size + 1 < z2.val.heap.size := by omega
  have g3 : z2.val.heap.size < z3.val.heap.size := by omega
  have g4 : z3.val.heap.size < z4.val.heap.size := by have := z4.grown.size; simp at this; omega
  obtain ⟨z5, hz5⟩ := Up.of E
  rw [hz5] at k0 k1 k2 l0 l1 l2 lf0 lf1 r0 r1 r2 s0 s1 s2 rf0 rf1 rf2 sf0 sf1 sf2 g4 ⊢
  generalize z3.val.heap.size = B at *
  generalize z2.val.heap.size = A at *
  have hq := q0
  clear hz5 E z4 H3 H2 H1 HO HO2 HK HC H0 Hold hL1 hL2 hL3 hN1 hN2 hN3 h1 h2 h3
  have n1 : NeS A B := ⟨by omega⟩
  have n2 : NeS B A := ⟨by omega⟩
  have n3 : NeS A w.heap.size := ⟨by omega⟩
  have n4 : NeS B w.heap.size := ⟨by omega⟩
  have n5 : NeS A (w.heap.size + 1) := ⟨by omega⟩
  have n6 : NeS B (w.heap.size + 1) := ⟨by omega⟩
  have E5 : Ext w z5.val := (((Ext.refl w).alloc _).alloc _).trans z5.ext
  rcases (show q = 0 ∨ 0 < q by omega) with rfl | hq1
  · go_upto_region 8 with fail
    go_region
    all_goals
      go_wp2_with fail
      refine bodyPost_ret (v := .tuple #[.agg #[.int .i64 a.s, .int .i64 a.v, .int .i64 a.g], .agg #[.int .i64 b.s, .int .i64 b.v, .int .i64 b.g]]) (by simp [results, Try.results43, go_sem, r0, r1, r2, s0, s1, s2]) rfl ?_
      exact ⟨a, b, rfl, .of (by repeat (first | (with_reducible exact E5) | (with_reducible refine Ext.setCell ?_ (by dsimp only; omega) _) | (with_reducible refine Ext.drew ?_)))⟩
  · go_upto_region 8 with fail
    go_region
    all_goals
      go_wp2_with fail
      refine bodyPost_ret (v := .tuple #[.agg #[.int .i64 a.s, .int .i64 a.v, .int .i64 a.g], .agg #[.int .i64 a.s, .int .i64 a.v, .int .i64 b.g]]) (by simp [results, Try.results43, go_sem, r0, r1, r2, s0, s1, s2]) rfl ?_
      exact ⟨a, ⟨a.s, a.v, b.g⟩, rfl, .of (by repeat (first | (with_reducible exact E5) | (with_reducible refine Ext.setCell ?_ (by dsimp only; omega) _) | (with_reducible refine Ext.drew ?_)))⟩
theorem or_g (a b : Crt) (h : a.joins b = true) : (joinC a b).g = bits BinOp.or IntKind.i64 a.g b.g := by rw [joinC_yes h]; rfl
set_option maxRecDepth 100000 in
set_option maxHeartbeats 4000000 in
theorem FnJoinCerts_any (bs : List Int) (v : Value) (w : World) (h : SL (RF encU) 1 w v bs) (hb : ∀ b ∈ bs, 0 ≤ b ∧ b ≤ 255) :
    Calls Try.prog 10 #[v] w fun e w' => e = .returned (.bool true) ∧ Up w w' := by
  have H := Lib.hid h
  obtain ⟨p, c, rfl, _, _⟩ := h.openc
  clear h
  by_cases hl : 1048576 < bs.length
  · go_enter Try.func10, Try.ntmps10
    go_wp2_with fail
    go_ret
    exact ⟨rfl, (.of (by repeat (first | (with_reducible exact Ext.refl _) | (with_reducible refine Ext.up ?_ _) | (with_reducible refine Ext.alloc ?_ _) | (with_reducible refine Ext.drew ?_) | (with_reducible refine Ext.setRow ?_ (by first | exact LeS.le | exact LeS.add _ | (simp; done) | (simp; omega)) _) | (with_reducible refine Ext.setCell ?_ (by first | exact LeS.le | exact LeS.add _ | (simp; done) | (simp; omega)) _))))⟩
  go_enter Try.func10, Try.ntmps10
  go_wp2_with fail
  refine (drawJoinCerts_any bs _ _ (H.out.up (by repeat (first | (with_reducible exact Ext.refl _) | (with_reducible refine Ext.up ?_ _) | (with_reducible refine Ext.alloc ?_ _) | (with_reducible refine Ext.drew ?_) | (with_reducible refine Ext.setRow ?_ (by first | exact LeS.le | exact LeS.add _ | (simp; done) | (simp; omega)) _) | (with_reducible refine Ext.setCell ?_ (by first | exact LeS.le | exact LeS.add _ | (simp; done) | (simp; omega)) _)))) hb).mono ?_; rintro e w' ⟨a, b, rfl, ⟨z0, rfl⟩⟩
  have ki := fun w => iJoinCerts_any a b w
  have ks := fun w => sJoinCerts_any a b w
  have kt := fun w => iJoinCerts_any b a w
  rw [joinC_comm a b, joins_comm a b] at kt
  rcases hj : a.joins b with _ | _
  · simp only [hj, joinC_no hj] at ki ks kt
    clear hj
    go_wp2_with (first | (go_at_call 42; (with_reducible refine (ki _).mono ?_); rintro e w' ⟨rfl, z1, rfl⟩) | (go_at_call 44; refine (ks _).mono ?_; rintro e w' ⟨rfl, z2, rfl⟩) | (go_at_call 42; (with_reducible refine (kt _).mono ?_); rintro e w' ⟨rfl, z3, rfl⟩) | (go_at_call 20; refine (alive_any _).mono ?_; rintro e w' ⟨rfl, z4, rfl⟩))
    go_ret
    exact ⟨rfl, (.of (by repeat (first | (with_reducible exact Ext.refl _) | (with_reducible refine Ext.up ?_ _) | (with_reducible refine Ext.alloc ?_ _) | (with_reducible refine Ext.drew ?_) | (with_reducible refine Ext.setRow ?_ (by first | exact LeS.le | exact LeS.add _ | (simp; done) | (simp; omega)) _) | (with_reducible refine Ext.setCell ?_ (by first | exact LeS.le | exact LeS.add _ | (simp; done) | (simp; omega)) _))))⟩
  have kv := fun w => iCertValid_any (joinC a b) w
  have kx := fun w => iCertCounts_any (joinC a b) w
  have ka := fun w => iCertCounts_any a w
  have kb := fun w => iCertCounts_any b w
  have ha := joinC_counts (a := a) (b := b) hj
  have hb' := joinC_counts' (a := a) (b := b) hj
  simp only [joinC_ok hj] at kv
  simp only [hj] at ki ks kt
  have ho := or_g a b hj
  obtain ⟨o, hoo⟩ : ∃ o, bits BinOp.or IntKind.i64 a.g b.g = o := ⟨_, rfl⟩
  rw [hoo] at ho
  generalize joinC a b = x at *
  obtain ⟨xs, xv, xg⟩ := x
  simp only at ho ki ks kt kv kx
  subst ho
  generalize Crt.counts ⟨xs, xv, xg⟩ = cx at *
  generalize a.counts = ca at *
  generalize b.counts = cb at *
  clear hj
  rcases ca with _ | _ <;> rcases cb with _ | _ <;> rcases cx with _ | _ <;> simp at ha hb'
  all_goals
    go_wp2_with (first | (go_at_call 42; (with_reducible refine (ki _).mono ?_); rintro e w' ⟨rfl, z1, rfl⟩) | (go_at_call 44; refine (ks _).mono ?_; rintro e w' ⟨rfl, z2, rfl⟩) | (go_at_call 42; (with_reducible refine (kt _).mono ?_); rintro e w' ⟨rfl, z3, rfl⟩) | (go_at_call 24; refine (kv _).mono ?_; rintro e w' ⟨rfl, z4, rfl⟩) | (go_at_call 40; (with_reducible refine (ka _).mono ?_); rintro e w' ⟨rfl, z5, rfl⟩) | (go_at_call 40; (with_reducible refine (kb _).mono ?_); rintro e w' ⟨rfl, z6, rfl⟩) | (go_at_call 40; (with_reducible refine (kx _).mono ?_); rintro e w' ⟨rfl, z7, rfl⟩))
    go_ret
    exact ⟨rfl, (.of (by repeat (first | (with_reducible exact Ext.refl _) | (with_reducible refine Ext.up ?_ _) | (with_reducible refine Ext.alloc ?_ _) | (with_reducible refine Ext.drew ?_) | (with_reducible refine Ext.setRow ?_ (by first | exact LeS.le | exact LeS.add _ | (simp; done) | (simp; omega)) _) | (with_reducible refine Ext.setCell ?_ (by first | exact LeS.le | exact LeS.add _ | (simp; done) | (simp; omega)) _))))⟩
end Go.Proofs.Ytphkimbhjfjjkaa
