/- Walk: the law FnConflict: two actions not in conflict, in both orders. The decoder of codes. -/
import Derived.Test.YtkboefmkfpnpjaaGCflTop19
import Derived.Test.YtkboefmkfpnpjaaGCflTop22
import Derived.Test.YtkboefmkfpnpjaaGCflTop07
import Derived.Test.YtkboefmkfpnpjaaGCflTop08
import Derived.Test.YtkboefmkfpnpjaaGCflTop09
import Derived.Test.YtkboefmkfpnpjaaGCflTop10
import Derived.Test.YtkboefmkfpnpjaaGCflTop18
set_option linter.unusedSimpArgs false
set_option linter.unusedVariables false
namespace Go.Proofs.Ytkboefmkfpnpjaa
open Go Go.RowKit Go.Proofs

theorem conflict_symm (x y : Actn) : conflict y x = conflict x y := by
  unfold conflict conf
  rw [common_symm y.wk x.wk, common_symm y.wk x.rk, common_symm y.rk x.wk]
  cases x.ok <;> cases y.ok <;> cases common x.wk y.wk <;> cases common x.wk y.rk <;> cases common x.rk y.wk <;> rfl
def s3 : List Ent := [⟨1, 40⟩, ⟨2, 8⟩, ⟨3, 900⟩]
theorem s3_ok : entsOk 1 s3 = true := by decide
theorem actsOk_two {x y : Actn} (hx : x.ok = true) (hy : y.ok = true) : actsOk [x, y] = true := by
  simp [actsOk, hx, hy]
theorem SE.two {w : World} {v : Value} {x y : Eff} (h : SE w v [x, y]) : ∃ b off cap p c p' c' q d q' d', v = .slice (some ⟨b, off, none⟩) 2 cap ∧ b < w.heap.size ∧
    w.cell? ⟨b, off, none⟩ = some (.bool x.d) ∧ w.cell? ⟨b, off + 1, none⟩ = some (.slice p x.r.length c) ∧ w.cell? ⟨b, off + 2, none⟩ = some (.slice p' x.w.length c') ∧
    w.cell? ⟨b, off + 3, none⟩ = some (.bool y.d) ∧ w.cell? ⟨b, off + 3 + 1, none⟩ = some (.slice q y.r.length d) ∧ w.cell? ⟨b, off + 3 + 2, none⟩ = some (.slice q' y.w.length d') ∧
    (SL (RF Ent.enc) 2 w (.slice p x.r.length c) x.r ∧ SL (RF Ent.enc) 2 w (.slice p' x.w.length c') x.w) ∧ SL (RF Ent.enc) 2 w (.slice q y.r.length d) y.r ∧ SL (RF Ent.enc) 2 w (.slice q' y.w.length d') y.w := by
  obtain ⟨a, cap, rfl, _, _, hc⟩ := h.open
  obtain ⟨b, off, p, c, p', c', rfl, hb, a0, a1, a2, s1, s2⟩ := hc 0 x rfl
  obtain ⟨b', off', q, d, q', d', e, hb', e0, e1, e2, t1, t2⟩ := hc 1 y rfl
  cases e
  exact ⟨b, off, cap, p, c, p', c', q, d, q', d', rfl, hb.lt, by simpa using a0, by simpa using a1, by simpa using a2, by simpa using e0, by simpa using e1, by simpa using e2, ⟨s1, s2⟩, t1, t2⟩
set_option maxRecDepth 100000 in
set_option maxHeartbeats 1000000 in
theorem sameEffect_same (d : Bool) (r u : List Ent) (vr vw vr' vw' : Value) (w : World) (h1 : SL (RF Ent.enc) 2 w vr r) (h2 : SL (RF Ent.enc) 2 w vw u) (h3 : SL (RF Ent.enc) 2 w vr' r) (h4 : SL (RF Ent.enc) 2 w vw' u) :
    Calls Try.prog 21 #[.agg #[.bool d, vr, vw], .agg #[.bool d, vr', vw']] w fun e w' => e = .returned (.bool true) ∧ Up w w' := by
  have H1 := Lib.hid h1; have H2 := Lib.hid h2; have H3 := Lib.hid h3; have H4 := Lib.hid h4
  obtain ⟨p1, c1, rfl, _, _⟩ := h1.openc
  obtain ⟨p2, c2, rfl, _, _⟩ := h2.openc
  obtain ⟨p3, c3, rfl, _, _⟩ := h3.openc
  obtain ⟨p4, c4, rfl, _, _⟩ := h4.openc
  clear h1 h2 h3 h4
  have hd : (d == d) = true := by simp
  go_enter Try.func21, Try.ntmps21
  go_wp2_with fail
  refine (sameStore_same r _ _ _ (H1.out.up (by repeat (first | (with_reducible exact Ext.refl _) | (with_reducible refine Ext.up ?_ _) | (with_reducible refine Ext.alloc ?_ _) | (with_reducible refine Ext.drew ?_) | (with_reducible refine Ext.setRow ?_ (by first | exact LeS.le | exact LeS.add _ | (simp; done) | (simp; omega)) _) | (with_reducible refine Ext.setCell ?_ (by first | exact LeS.le | exact LeS.add _ | (simp; done) | (simp; omega)) _)))) (H3.out.up (by repeat (first | (with_reducible exact Ext.refl _) | (with_reducible refine Ext.up ?_ _) | (with_reducible refine Ext.alloc ?_ _) | (with_reducible refine Ext.drew ?_) | (with_reducible refine Ext.setRow ?_ (by first | exact LeS.le | exact LeS.add _ | (simp; done) | (simp; omega)) _) | (with_reducible refine Ext.setCell ?_ (by first | exact LeS.le | exact LeS.add _ | (simp; done) | (simp; omega)) _))))).mono ?_; rintro e w' ⟨rfl, z1, rfl⟩
  go_wp2_with fail
  refine (sameStore_same u _ _ _ (H2.out.up (by repeat (first | (with_reducible exact Ext.refl _) | (with_reducible refine Ext.up ?_ _) | (with_reducible refine Ext.alloc ?_ _) | (with_reducible refine Ext.drew ?_) | (with_reducible refine Ext.setRow ?_ (by first | exact LeS.le | exact LeS.add _ | (simp; done) | (simp; omega)) _) | (with_reducible refine Ext.setCell ?_ (by first | exact LeS.le | exact LeS.add _ | (simp; done) | (simp; omega)) _)))) (H4.out.up (by repeat (first | (with_reducible exact Ext.refl _) | (with_reducible refine Ext.up ?_ _) | (with_reducible refine Ext.alloc ?_ _) | (with_reducible refine Ext.drew ?_) | (with_reducible refine Ext.setRow ?_ (by first | exact LeS.le | exact LeS.add _ | (simp; done) | (simp; omega)) _) | (with_reducible refine Ext.setCell ?_ (by first | exact LeS.le | exact LeS.add _ | (simp; done) | (simp; omega)) _))))).mono ?_; rintro e w' ⟨rfl, z2, rfl⟩
  go_wp2_with fail
  go_ret
  exact ⟨rfl, (.of (by repeat (first | (with_reducible exact Ext.refl _) | (with_reducible refine Ext.up ?_ _) | (with_reducible refine Ext.alloc ?_ _) | (with_reducible refine Ext.drew ?_) | (with_reducible refine Ext.setRow ?_ (by first | exact LeS.le | exact LeS.add _ | (simp; done) | (simp; omega)) _) | (with_reducible refine Ext.setCell ?_ (by first | exact LeS.le | exact LeS.add _ | (simp; done) | (simp; omega)) _))))⟩
set_option maxRecDepth 100000 in
set_option maxHeartbeats 2000000 in
theorem FnConflict_any (bs : List Int) (v : Value) (w : World) (h : SL (RF encU) 1 w v bs) (hb : ∀ b ∈ bs, 0 ≤ b ∧ b ≤ 255) :
    Calls Try.prog 3 #[v] w fun e w' => e = .returned (.bool true) ∧ Up w w' := by
  have H := Lib.hid h
  obtain ⟨p, c, rfl, _, _⟩ := h.openc
  clear h
  by_cases hl : 1048576 < bs.length
  · go_enter Try.func3, Try.ntmps3
    go_wp2_with fail
    go_ret
    exact ⟨rfl, (.of (by repeat (first | (with_reducible exact Ext.refl _) | (with_reducible refine Ext.up ?_ _) | (with_reducible refine Ext.alloc ?_ _) | (with_reducible refine Ext.drew ?_) | (with_reducible refine Ext.setRow ?_ (by first | exact LeS.le | exact LeS.add _ | (simp; done) | (simp; omega)) _) | (with_reducible refine Ext.setCell ?_ (by first | exact LeS.le | exact LeS.add _ | (simp; done) | (simp; omega)) _))))⟩
  go_enter Try.func3, Try.ntmps3
  go_wp2_with fail
  refine (drawConflict_any bs _ _ (H.out.up (by repeat (first | (with_reducible exact Ext.refl _) | (with_reducible refine Ext.up ?_ _) | (with_reducible refine Ext.alloc ?_ _) | (with_reducible refine Ext.drew ?_) | (with_reducible refine Ext.setRow ?_ (by first | exact LeS.le | exact LeS.add _ | (simp; done) | (simp; omega)) _) | (with_reducible refine Ext.setCell ?_ (by first | exact LeS.le | exact LeS.add _ | (simp; done) | (simp; omega)) _)))) hb).mono ?_; rintro e w' ⟨x, y, rfl, ⟨z0, rfl⟩⟩
  have kc := fun w => iConflict_any x y w
  have kd := fun w => iConflict_any y x w
  have ks := fun w => sConflict_any x y w
  have kx := fun w => sActionValid_any x w
  have ky := fun w => sActionValid_any y w
  rw [conflict_symm] at kd
  have hfull : conflict x y = false → x.ok = true → y.ok = true → conf x y = false := fun h h1 h2 => by simpa [conflict, h1, h2] using h
  have kR1 := fun hx hy v vl w h hl => iRunSerial_yes s3 [x, y] v vl w h hl s3_ok (actsOk_two hx hy)
  have kR2 := fun hx hy v vl w h hl => iRunSerial_yes s3 [y, x] v vl w h hl s3_ok (actsOk_two hy hx)
  have hrun := fun hx hy hf => run_two (x := x) (y := y) hx hy hf (valsOf s3)
  generalize hcf : conflict x y = cf at *
  generalize hox : x.ok = ox at *
  generalize hoy : y.ok = oy at *
  clear hcf hox hoy
  rcases cf with _ | _
  rotate_left
  · clear hfull kR1 kR2 hrun kx ky
    go_wp2_with fail
    refine (kc _).mono ?_; rintro e w' ⟨rfl, z1, rfl⟩
    go_wp2_with fail
    refine (ks _).mono ?_; rintro e w' ⟨rfl, z2, rfl⟩
    go_wp2_with fail
    refine (kd _).mono ?_; rintro e w' ⟨rfl, z3, rfl⟩
    go_wp2_with fail
    refine (alive_any _).mono ?_; rintro e w' ⟨rfl, z4, rfl⟩
    go_wp2_with fail
    go_ret
    exact ⟨rfl, (.of (by repeat (first | (with_reducible exact Ext.refl _) | (with_reducible refine Ext.up ?_ _) | (with_reducible refine Ext.alloc ?_ _) | (with_reducible refine Ext.drew ?_) | (with_reducible refine Ext.setRow ?_ (by first | exact LeS.le | exact LeS.add _ | (simp; done) | (simp; omega)) _) | (with_reducible refine Ext.setCell ?_ (by first | exact LeS.le | exact LeS.add _ | (simp; done) | (simp; omega)) _))))⟩
  rcases ox with _ | _
  · clear hfull kR1 kR2 hrun ky
    go_wp2_with fail
    refine (kc _).mono ?_; rintro e w' ⟨rfl, z1, rfl⟩
    go_wp2_with fail
    refine (ks _).mono ?_; rintro e w' ⟨rfl, z2, rfl⟩
    go_wp2_with fail
    refine (kd _).mono ?_; rintro e w' ⟨rfl, z3, rfl⟩
    go_wp2_with fail
    refine (kx _).mono ?_; rintro e w' ⟨rfl, z4, rfl⟩
    go_wp2_with fail
    refine (alive_any _).mono ?_; rintro e w' ⟨rfl, z5, rfl⟩
    go_wp2_with fail
    go_ret
    exact ⟨rfl, (.of (by repeat (first | (with_reducible exact Ext.refl _) | (with_reducible refine Ext.up ?_ _) | (with_reducible refine Ext.alloc ?_ _) | (with_reducible refine Ext.drew ?_) | (with_reducible refine Ext.setRow ?_ (by first | exact LeS.le | exact LeS.add _ | (simp; done) | (simp; omega)) _) | (with_reducible refine Ext.setCell ?_ (by first | exact LeS.le | exact LeS.add _ | (simp; done) | (simp; omega)) _))))⟩
  rcases oy with _ | _
  · clear hfull kR1 kR2 hrun
    go_wp2_with fail
    refine (kc _).mono ?_; rintro e w' ⟨rfl, z1, rfl⟩
    go_wp2_with fail
    refine (ks _).mono ?_; rintro e w' ⟨rfl, z2, rfl⟩
    go_wp2_with fail
    refine (kd _).mono ?_; rintro e w' ⟨rfl, z3, rfl⟩
    go_wp2_with fail
    refine (kx _).mono ?_; rintro e w' ⟨rfl, z4, rfl⟩
    go_wp2_with fail
    refine (ky _).mono ?_; rintro e w' ⟨rfl, z5, rfl⟩
    go_wp2_with fail
    refine (alive_any _).mono ?_; rintro e w' ⟨rfl, z6, rfl⟩
    go_wp2_with fail
    go_ret
    exact ⟨rfl, (.of (by repeat (first | (with_reducible exact Ext.refl _) | (with_reducible refine Ext.up ?_ _) | (with_reducible refine Ext.alloc ?_ _) | (with_reducible refine Ext.drew ?_) | (with_reducible refine Ext.setRow ?_ (by first | exact LeS.le | exact LeS.add _ | (simp; done) | (simp; omega)) _) | (with_reducible refine Ext.setCell ?_ (by first | exact LeS.le | exact LeS.add _ | (simp; done) | (simp; omega)) _))))⟩
  obtain ⟨r1, r2, r3⟩ := hrun rfl rfl (hfull rfl rfl rfl)
  have kr1 := kR1 rfl rfl
  have kr2 := kR2 rfl rfl
  clear hfull hrun kR1 kR2
  rw [r1, r2] at kr1
  rw [r3] at kr2
  clear r1 r2 r3
  generalize storeOf (runAll (valsOf s3) [y, x]).1 = S at *
  generalize runV (valsOf s3) x = E1 at *
  generalize runV (valsOf s3) y = E2 at *
  go_wp2_with fail
  refine (kc _).mono ?_; rintro e w' ⟨rfl, z1, rfl⟩
  go_wp2_with fail
  refine (ks _).mono ?_; rintro e w' ⟨rfl, z2, rfl⟩
  go_wp2_with fail
  refine (kd _).mono ?_; rintro e w' ⟨rfl, z3, rfl⟩
  go_wp2_with fail
  refine (kx _).mono ?_; rintro e w' ⟨rfl, z4, rfl⟩
  go_wp2_with fail
  refine (ky _).mono ?_; rintro e w' ⟨rfl, z5, rfl⟩
  clear kc kd ks kx ky
  go_wp2_with fail
  have oS : SL (RF Ent.enc) 2 (z5.val.alloc (.cells #[.int .i64 1, .int .i64 40, .int .i64 2, .int .i64 8, .int .i64 3, .int .i64 900] 31)) (.slice (some ⟨z5.val.heap.size, 0, none⟩) 3 3) s3 :=
    Own.sl Ent.enc_length (Own.lit (lo := 0) (l := s3) rfl (Nat.zero_le _) rfl rfl Ent.enc_length (by decide))
  have OS := Lib.hid oS; clear oS
  refine (kr1 _ _ _ (OS.out.up (by repeat (first | (with_reducible exact Ext.refl _) | (with_reducible refine Ext.up ?_ _) | (with_reducible refine Ext.alloc ?_ _) | (with_reducible refine Ext.drew ?_) | (with_reducible refine Ext.setRow ?_ (by first | exact LeS.le | exact LeS.add _ | (simp; done) | (simp; omega)) _) | (with_reducible refine Ext.setCell ?_ (by first | exact LeS.le | exact LeS.add _ | (simp; done) | (simp; omega)) _)))) (Own.sl Actn.enc_length (Own.lit (lo := 0) (l := [x, y]) (by simp) (Nat.zero_le _) rfl rfl Actn.enc_length (by simp)))).mono ?_; rintro e w' ⟨v1, v2, ts, rfl, ⟨z6, rfl⟩, o1, oe, hts⟩
  have hse := oe.se
  rw [hts] at hse
  obtain ⟨b1, f1, g1, p1, c1, p1', c1', q1, d1, q1', d1', rfl, hb1, a0, a1, a2, a3, a4, a5, ⟨s1, s2⟩, s3', s4⟩ := hse.two
  obtain ⟨px, cx, rfl, _, _⟩ := (o1.sl Ent.enc_length).openc
  have O1 := Lib.hid o1; have S1 := Lib.hid s1; have S2 := Lib.hid s2; have S3 := Lib.hid s3'; have S4 := Lib.hid s4
  clear kr1 o1 oe hts hse s1 s2 s3' s4
  go_wp2_with fail
  refine (kr2 _ _ _ (OS.out.up (by repeat (first | (with_reducible exact Ext.refl _) | (with_reducible refine Ext.up ?_ _) | (with_reducible refine Ext.alloc ?_ _) | (with_reducible refine Ext.drew ?_) | (with_reducible refine Ext.setRow ?_ (by first | exact LeS.le | exact LeS.add _ | (simp; done) | (simp; omega)) _) | (with_reducible refine Ext.setCell ?_ (by first | exact LeS.le | exact LeS.add _ | (simp; done) | (simp; omega)) _)))) (Own.sl Actn.enc_length (Own.lit (lo := 0) (l := [y, x]) (by simp) (Nat.zero_le _) rfl rfl Actn.enc_length (by simp)))).mono ?_; rintro e w' ⟨v3, v4, ts', rfl, ⟨z7, rfl⟩, o2, oe, hts⟩
  have hse := oe.se
  rw [hts] at hse
  obtain ⟨b2, f2, g2, p2, c2, p2', c2', q2, d2, q2', d2', rfl, hb2, e0, e1, e2, e3, e4, e5, ⟨s1, s2⟩, s3', s4⟩ := hse.two
  obtain ⟨py, cy, rfl, _, _⟩ := (o2.sl Ent.enc_length).openc
  have O2 := Lib.hid o2; have S5 := Lib.hid s1; have S6 := Lib.hid s2; have S7 := Lib.hid s3'; have S8 := Lib.hid s4
  clear kr2 o2 oe hts hse s1 s2 s3' s4
  have hL1 : LtS b1 z6.val := ⟨hb1⟩
  have hL2 : LtS b2 z7.val := ⟨hb2⟩
  clear hb1 hb2
  go_wp2_with fail
  (refine wp_region_up (by kernel_rfl) (by kernel_rfl) ?_; (repeat (go_big_quiet_step (first | (go_at_call 20; with_reducible exact Calls.up (sameStore_same S _ _ _ ((O1.out.sl Ent.enc_length).up (by repeat (first | (with_reducible exact Ext.refl _) | (with_reducible refine Ext.up ?_ _) | (with_reducible refine Ext.alloc ?_ _) | (with_reducible refine Ext.drew ?_) | (with_reducible refine Ext.setRow ?_ (by first | exact LeS.le | exact LeS.add _ | (simp; done) | (simp; omega)) _) | (with_reducible refine Ext.setCell ?_ (by first | exact LeS.le | exact LeS.add _ | (simp; done) | (simp; omega)) _)))) ((O2.out.sl Ent.enc_length).up (by repeat (first | (with_reducible exact Ext.refl _) | (with_reducible refine Ext.up ?_ _) | (with_reducible refine Ext.alloc ?_ _) | (with_reducible refine Ext.drew ?_) | (with_reducible refine Ext.setRow ?_ (by first | exact LeS.le | exact LeS.add _ | (simp; done) | (simp; omega)) _) | (with_reducible refine Ext.setCell ?_ (by first | exact LeS.le | exact LeS.add _ | (simp; done) | (simp; omega)) _)))))) | (go_at_call 21; with_reducible exact Calls.up (sameEffect_same E1.d E1.r E1.w _ _ _ _ _ (S1.out.up (by repeat (first | (with_reducible exact Ext.refl _) | (with_reducible refine Ext.up ?_ _) | (with_reducible refine Ext.alloc ?_ _) | (with_reducible refine Ext.drew ?_) | (with_reducible refine Ext.setRow ?_ (by first | exact LeS.le | exact LeS.add _ | (simp; done) | (simp; omega)) _) | (with_reducible refine Ext.setCell ?_ (by first | exact LeS.le | exact LeS.add _ | (simp; done) | (simp; omega)) _)))) (S2.out.up (by repeat (first | (with_reducible exact Ext.refl _) | (with_reducible refine Ext.up ?_ _) | (with_reducible refine Ext.alloc ?_ _) | (with_reducible refine Ext.drew ?_) | (with_reducible refine Ext.setRow ?_ (by first | exact LeS.le | exact LeS.add _ | (simp; done) | (simp; omega)) _) | (with_reducible refine Ext.setCell ?_ (by first | exact LeS.le | exact LeS.add _ | (simp; done) | (simp; omega)) _)))) (S7.out.up (by repeat (first | (with_reducible exact Ext.refl _) | (with_reducible refine Ext.up ?_ _) | (with_reducible refine Ext.alloc ?_ _) | (with_reducible refine Ext.drew ?_) | (with_reducible refine Ext.setRow ?_ (by first | exact LeS.le | exact LeS.add _ | (simp; done) | (simp; omega)) _) | (with_reducible refine Ext.setCell ?_ (by first | exact LeS.le | exact LeS.add _ | (simp; done) | (simp; omega)) _)))) (S8.out.up (by repeat (first | (with_reducible exact Ext.refl _) | (with_reducible refine Ext.up ?_ _) | (with_reducible refine Ext.alloc ?_ _) | (with_reducible refine Ext.drew ?_) | (with_reducible refine Ext.setRow ?_ (by first | exact LeS.le | exact LeS.add _ | (simp; done) | (simp; omega)) _) | (with_reducible refine Ext.setCell ?_ (by first | exact LeS.le | exact LeS.add _ | (simp; done) | (simp; omega)) _)))))) | (go_at_call 21; with_reducible exact Calls.up (sameEffect_same E2.d E2.r E2.w _ _ _ _ _ (S3.out.up (by repeat (first | (with_reducible exact Ext.refl _) | (with_reducible refine Ext.up ?_ _) | (with_reducible refine Ext.alloc ?_ _) | (with_reducible refine Ext.drew ?_) | (with_reducible refine Ext.setRow ?_ (by first | exact LeS.le | exact LeS.add _ | (simp; done) | (simp; omega)) _) | (with_reducible refine Ext.setCell ?_ (by first | exact LeS.le | exact LeS.add _ | (simp; done) | (simp; omega)) _)))) (S4.out.up (by repeat (first | (with_reducible exact Ext.refl _) | (with_reducible refine Ext.up ?_ _) | (with_reducible refine Ext.alloc ?_ _) | (with_reducible refine Ext.drew ?_) | (with_reducible refine Ext.setRow ?_ (by first | exact LeS.le | exact LeS.add _ | (simp; done) | (simp; omega)) _) | (with_reducible refine Ext.setCell ?_ (by first | exact LeS.le | exact LeS.add _ | (simp; done) | (simp; omega)) _)))) (S5.out.up (by repeat (first | (with_reducible exact Ext.refl _) | (with_reducible refine Ext.up ?_ _) | (with_reducible refine Ext.alloc ?_ _) | (with_reducible refine Ext.drew ?_) | (with_reducible refine Ext.setRow ?_ (by first | exact LeS.le | exact LeS.add _ | (simp; done) | (simp; omega)) _) | (with_reducible refine Ext.setCell ?_ (by first | exact LeS.le | exact LeS.add _ | (simp; done) | (simp; omega)) _)))) (S6.out.up (by repeat (first | (with_reducible exact Ext.refl _) | (with_reducible refine Ext.up ?_ _) | (with_reducible refine Ext.alloc ?_ _) | (with_reducible refine Ext.drew ?_) | (with_reducible refine Ext.setRow ?_ (by first | exact LeS.le | exact LeS.add _ | (simp; done) | (simp; omega)) _) | (with_reducible refine Ext.setCell ?_ (by first | exact LeS.le | exact LeS.add _ | (simp; done) | (simp; omega)) _))))))))); refine wpQuiet_nil ?_; intro _ hw'; obtain ⟨zq, hw''⟩ := hw'; subst hw'')
  go_wp2_with fail
  go_ret
  exact ⟨rfl, (.of (by repeat (first | (with_reducible exact Ext.refl _) | (with_reducible refine Ext.up ?_ _) | (with_reducible refine Ext.alloc ?_ _) | (with_reducible refine Ext.drew ?_) | (with_reducible refine Ext.setRow ?_ (by first | exact LeS.le | exact LeS.add _ | (simp; done) | (simp; omega)) _) | (with_reducible refine Ext.setCell ?_ (by first | exact LeS.le | exact LeS.add _ | (simp; done) | (simp; omega)) _))))⟩
end Go.Proofs.Ytkboefmkfpnpjaa
namespace Go.Proofs.Ytkboefmkfpnpjaa
open Go.ChangeShapes Go.WideShapes Go.ChangeAt Go.RowKit

def RByte (_ : World) (cs : List Value) (n : Int) : Prop := cs = encU n ∧ 0 ≤ n ∧ n ≤ 255
theorem SL.of_byte {w : World} {v : Value} {l : List Int} (h : SL RByte 1 w v l) : SL (RF encU) 1 w v l ∧ ∀ b ∈ l, 0 ≤ b ∧ b ≤ 255 := by
  obtain ⟨a, cap, hv, hl, hc⟩ := h
  refine ⟨⟨a, cap, hv, hl, fun hne => ?_⟩, fun b hb => ?_⟩
  · obtain ⟨b, off, ha, hb, hx⟩ := hc hne
    refine ⟨b, off, ha, hb, fun i x hi => ?_⟩
    obtain ⟨cs, h1, h2, h3⟩ := hx i x hi
    exact ⟨cs, h1, h2, h3.1⟩
  · obtain ⟨i, hi⟩ := List.getElem?_of_mem hb
    obtain ⟨_, _, _, _, hx⟩ := hc (by intro e; subst e; simp at hb)
    obtain ⟨_, _, _, h3⟩ := hx i b hi
    exact h3.2
theorem dec_Byte : Dec Try.prog 5 1 RByte := by
  intro H enc W sp held fuel cs x h
  obtain ⟨n, rfl, _, hw⟩ := DataW.trod_int (k := .u8) Try.underlying5 h
  have hb : 0 ≤ n ∧ n ≤ 255 := by
    simp [Lit.wf, IntKind.min, IntKind.max, IntKind.signed, IntKind.bits] at hw
    omega
  exact ⟨rfl, n, rfl, hb.1, hb.2⟩
theorem dec_Bytes : Dec Try.prog 22 1 (RSl RByte 1) := dec_slice Try.underlying22 (by kernel_rfl) (by decide) dec_Byte
end Go.Proofs.Ytkboefmkfpnpjaa
