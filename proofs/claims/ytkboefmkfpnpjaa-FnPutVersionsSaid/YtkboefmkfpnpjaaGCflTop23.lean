/- Walk: the law FnConflict: two actions not in conflict, in both orders. The decoder of codes. Walks: trees of blocks: sizes, copies, comparisons. Plain ground: trees of the call's own whose slices share no block; rows behind an append. Walks: trees of blocks: copies, comparisons, marks. Plain ground: trees of the call's own that grow by a block and by a number. Plain ground: the tree in a box of its own while it grows, beside the reader. Plain ground: trees of the call's own in which one number is turned, or that have an entry more. -/
import Derived.Test.YtkboefmkfpnpjaaGCflTop19
import Derived.Test.YtkboefmkfpnpjaaGCflTop22
import Derived.Test.YtkboefmkfpnpjaaGCflTop07
import Derived.Test.YtkboefmkfpnpjaaGCflTop08
import Derived.Test.YtkboefmkfpnpjaaGCflTop09
import Derived.Test.YtkboefmkfpnpjaaGCflTop10
import Derived.Test.YtkboefmkfpnpjaaGCflTop18
import Derived.Test.YtkboefmkfpnpjaaGCflTop12
import Derived.Test.YtkboefmkfpnpjaaGCflTop06
import Derived.Test.YtkboefmkfpnpjaaGCflTop20
import Derived.Test.YtkboefmkfpnpjaaGCflTop17
set_option linter.unusedSimpArgs false
set_option linter.unusedVariables false
namespace Go.Proofs.Ytkboefmkfpnpjaa
open Go Go.RowKit Go.Proofs

theorem conflict_symm (x y : Actn) : conflict y x = conflict x y := by
  unfold conflict conf
  rw [common_symm y.wk x.wk, common_symm y.wk x.rk, common_symm y.rk x.wk]
  cases x.ok <;> cases y.ok <;> cases common x.wk y.wk <;> cases common x.wk y.rk <;> cases common x.rk y.wk <;> rfl
def s3 : List Ent := [⟨1, 40⟩, ⟨2, 8⟩, ⟨3, 900⟩]
theorem s3_ok : entsOk 1 s3 = true := by decide
theorem actsOk_two {x y : Actn} (hx : x.ok = true) (hy : y.ok = true) : actsOk [x, y] = true := by
  simp [actsOk, hx, hy]
theorem SE.two {w : World} {v : Value} {x y : Eff} (h : SE w v [x, y]) : ∃ b off cap p c p' c' q d q' d', v = .slice (some ⟨b, off, none⟩) 2 cap ∧ b < w.heap.size ∧
    w.cell? ⟨b, off, none⟩ = some (.bool x.d) ∧ w.cell? ⟨b, off + 1, none⟩ = some (.slice p x.r.length c) ∧ w.cell? ⟨b, off + 2, none⟩ = some (.slice p' x.w.length c') ∧
    w.cell? ⟨b, off + 3, none⟩ = some (.bool y.d) ∧ w.cell? ⟨b, off + 3 + 1, none⟩ = some (.slice q y.r.length d) ∧ w.cell? ⟨b, off + 3 + 2, none⟩ = some (.slice q' y.w.length d') ∧
    (SL (RF Ent.enc) 2 w (.slice p x.r.length c) x.r ∧ SL (RF Ent.enc) 2 w (.slice p' x.w.length c') x.w) ∧ SL (RF Ent.enc) 2 w (.slice q y.r.length d) y.r ∧ SL (RF Ent.enc) 2 w (.slice q' y.w.length d') y.w := by
  obtain ⟨a, cap, rfl, _, _, hc⟩ := h.open
  obtain ⟨b, off, p, c, p', c', rfl, hb, a0, a1, a2, s1, s2⟩ := hc 0 x rfl
  obtain ⟨b', off', q, d, q', d', e, hb', e0, e1, e2, t1, t2⟩ := hc 1 y rfl
  cases e
  exact ⟨b, off, cap, p, c, p', c', q, d, q', d', rfl, hb.lt, by simpa using a0, by simpa using a1, by simpa using a2, by simpa using e0, by simpa using e1, by simpa using e2, ⟨s1, s2⟩, t1, t2⟩
set_option maxRecDepth 100000 in
set_option maxHeartbeats 1000000 in
theorem sameEffect_same (d : Bool) (r u : List Ent) (vr vw vr' vw' : Value) (w : World) (h1 : SL (RF Ent.enc) 2 w vr r) (h2 : SL (RF Ent.enc) 2 w vw u) (h3 : SL (RF Ent.enc) 2 w vr' r) (h4 : SL (RF Ent.enc) 2 w vw' u) :
    Calls Try.prog 21 #[.agg #[.bool d, vr, vw], .agg #[.bool d, vr', vw']] w fun e w' => e = .returned (.bool true) ∧ Up w w' := by
  have H1 := Lib.hid h1; have H2 := Lib.hid h2; have H3 := Lib.hid h3; have H4 := Lib.hid h4
  obtain ⟨p1, c1, rfl, _, _⟩ := h1.openc
  obtain ⟨p2, c2, rfl, _, _⟩ := h2.openc
  obtain ⟨p3, c3, rfl, _, _⟩ := h3.openc
  obtain ⟨p4, c4, rfl, _, _⟩ := h4.openc
  clear h1 h2 h3 h4
  have hd : (d == d) = true := by simp
  go_enter Try.func21, Try.ntmps21
  go_wp2_with fail
  refine (sameStore_same r _ _ _ (H1.out.up (by repeat (first | (with_reducible exact Ext.refl _) | (with_reducible refine Ext.up ?_ _) | (with_reducible refine Ext.alloc ?_ _) | (with_reducible refine Ext.drew ?_) | (with_reducible refine Ext.setRow ?_ (by first | exact LeS.le | exact LeS.add _ | (simp; done) | (simp; omega)) _) | (with_reducible refine Ext.setCell ?_ (by first | exact LeS.le | exact LeS.add _ | (simp; done) | (simp; omega)) _)))) (H3.out.up (by repeat (first | (with_reducible exact Ext.refl _) | (with_reducible refine Ext.up ?_ _) | (with_reducible refine Ext.alloc ?_ _) | (with_reducible refine Ext.drew ?_) | (with_reducible refine Ext.setRow ?_ (by first | exact LeS.le | exact LeS.add _ | (simp; done) | (simp; omega)) _) | (with_reducible refine Ext.setCell ?_ (by first | exact LeS.le | exact LeS.add _ | (simp; done) | (simp; omega)) _))))).mono ?_; rintro e w' ⟨rfl, z1, rfl⟩
  go_wp2_with fail
  refine (sameStore_same u _ _ _ (H2.out.up (by repeat (first | (with_reducible exact Ext.refl _) | (with_reducible refine Ext.up ?_ _) | (with_reducible refine Ext.alloc ?_ _) | (with_reducible refine Ext.drew ?_) | (with_reducible refine Ext.setRow ?_ (by first | exact LeS.le | exact LeS.add _ | (simp; done) | (simp; omega)) _) | (with_reducible refine Ext.setCell ?_ (by first | exact LeS.le | exact LeS.add _ | (simp; done) | (simp; omega)) _)))) (H4.out.up (by repeat (first | (with_reducible exact Ext.refl _) | (with_reducible refine Ext.up ?_ _) | (with_reducible refine Ext.alloc ?_ _) | (with_reducible refine Ext.drew ?_) | (with_reducible refine Ext.setRow ?_ (by first | exact LeS.le | exact LeS.add _ | (simp; done) | (simp; omega)) _) | (with_reducible refine Ext.setCell ?_ (by first | exact LeS.le | exact LeS.add _ | (simp; done) | (simp; omega)) _))))).mono ?_; rintro e w' ⟨rfl, z2, rfl⟩
  go_wp2_with fail
  go_ret
  exact ⟨rfl, (.of (by repeat (first | (with_reducible exact Ext.refl _) | (with_reducible refine Ext.up ?_ _) | (with_reducible refine Ext.alloc ?_ _) | (with_reducible refine Ext.drew ?_) | (with_reducible refine Ext.setRow ?_ (by first | exact LeS.le | exact LeS.add _ | (simp; done) | (simp; omega)) _) | (with_reducible refine Ext.setCell ?_ (by first | exact LeS.le | exact LeS.add _ | (simp; done) | (simp; omega)) _))))⟩
set_option maxRecDepth 100000 in
set_option maxHeartbeats 2000000 in
theorem FnConflict_any (bs : List Int) (v : Value) (w : World) (h : SL (RF encU) 1 w v bs) (hb : ∀ b ∈ bs, 0 ≤ b ∧ b ≤ 255) :
    Calls Try.prog 3 #[v] w fun e w' => e = .returned (.bool true) ∧ Up w w' := by
  have H := Lib.hid h
  obtain ⟨p, c, rfl, _, _⟩ := h.openc
  clear h
  by_cases hl : 1048576 < bs.length
  · go_enter Try.func3, Try.ntmps3
    go_wp2_with fail
    go_ret
    exact ⟨rfl, (.of (by repeat (first | (with_reducible exact Ext.refl _) | (with_reducible refine Ext.up ?_ _) | (with_reducible refine Ext.alloc ?_ _) | (with_reducible refine Ext.drew ?_) | (with_reducible refine Ext.setRow ?_ (by first | exact LeS.le | exact LeS.add _ | (simp; done) | (simp; omega)) _) | (with_reducible refine Ext.setCell ?_ (by first | exact LeS.le | exact LeS.add _ | (simp; done) | (simp; omega)) _))))⟩
  go_enter Try.func3, Try.ntmps3
  go_wp2_with fail
  refine (drawConflict_any bs _ _ (H.out.up (by repeat (first | (with_reducible exact Ext.refl _) | (with_reducible refine Ext.up ?_ _) | (with_reducible refine Ext.alloc ?_ _) | (with_reducible refine Ext.drew ?_) | (with_reducible refine Ext.setRow ?_ (by first | exact LeS.le | exact LeS.add _ | (simp; done) | (simp; omega)) _) | (with_reducible refine Ext.setCell ?_ (by first | exact LeS.le | exact LeS.add _ | (simp; done) | (simp; omega)) _)))) hb).mono ?_; rintro e w' ⟨x, y, rfl, ⟨z0, rfl⟩⟩
  have kc := fun w => iConflict_any x y w
  have kd := fun w => iConflict_any y x w
  have ks := fun w => sConflict_any x y w
  have kx := fun w => sActionValid_any x w
  have ky := fun w => sActionValid_any y w
  rw [conflict_symm] at kd
  have hfull : conflict x y = false → x.ok = true → y.ok = true → conf x y = false := fun h h1 h2 => by simpa [conflict, h1, h2] using h
  have kR1 := fun hx hy v vl w h hl => iRunSerial_yes s3 [x, y] v vl w h hl s3_ok (actsOk_two hx hy)
  have kR2 := fun hx hy v vl w h hl => iRunSerial_yes s3 [y, x] v vl w h hl s3_ok (actsOk_two hy hx)
  have hrun := fun hx hy hf => run_two (x := x) (y := y) hx hy hf (valsOf s3)
  generalize hcf : conflict x y = cf at *
  generalize hox : x.ok = ox at *
  generalize hoy : y.ok = oy at *
  clear hcf hox hoy
  rcases cf with _ | _
  rotate_left
  · clear hfull kR1 kR2 hrun kx ky
    go_wp2_with fail
    refine (kc _).mono ?_; rintro e w' ⟨rfl, z1, rfl⟩
    go_wp2_with fail
    refine (ks _).mono ?_; rintro e w' ⟨rfl, z2, rfl⟩
    go_wp2_with fail
    refine (kd _).mono ?_; rintro e w' ⟨rfl, z3, rfl⟩
    go_wp2_with fail
    refine (alive_any _).mono ?_; rintro e w' ⟨rfl, z4, rfl⟩
    go_wp2_with fail
    go_ret
    exact ⟨rfl, (.of (by repeat (first | (with_reducible exact Ext.refl _) | (with_reducible refine Ext.up ?_ _) | (with_reducible refine Ext.alloc ?_ _) | (with_reducible refine Ext.drew ?_) | (with_reducible refine Ext.setRow ?_ (by first | exact LeS.le | exact LeS.add _ | (simp; done) | (simp; omega)) _) | (with_reducible refine Ext.setCell ?_ (by first | exact LeS.le | exact LeS.add _ | (simp; done) | (simp; omega)) _))))⟩
  rcases ox with _ | _
  · clear hfull kR1 kR2 hrun ky
    go_wp2_with fail
    refine (kc _).mono ?_; rintro e w' ⟨rfl, z1, rfl⟩
    go_wp2_with fail
    refine (ks _).mono ?_; rintro e w' ⟨rfl, z2, rfl⟩
    go_wp2_with fail
    refine (kd _).mono ?_; rintro e w' ⟨rfl, z3, rfl⟩
    go_wp2_with fail
    refine (kx _).mono ?_; rintro e w' ⟨rfl, z4, rfl⟩
    go_wp2_with fail
    refine (alive_any _).mono ?_; rintro e w' ⟨rfl, z5, rfl⟩
    go_wp2_with fail
    go_ret
    exact ⟨rfl, (.of (by repeat (first | (with_reducible exact Ext.refl _) | (with_reducible refine Ext.up ?_ _) | (with_reducible refine Ext.alloc ?_ _) | (with_reducible refine Ext.drew ?_) | (with_reducible refine Ext.setRow ?_ (by first | exact LeS.le | exact LeS.add _ | (simp; done) | (simp; omega)) _) | (with_reducible refine Ext.setCell ?_ (by first | exact LeS.le | exact LeS.add _ | (simp; done) | (simp; omega)) _))))⟩
  rcases oy with _ | _
  · clear hfull kR1 kR2 hrun
    go_wp2_with fail
    refine (kc _).mono ?_; rintro e w' ⟨rfl, z1, rfl⟩
    go_wp2_with fail
    refine (ks _).mono ?_; rintro e w' ⟨rfl, z2, rfl⟩
    go_wp2_with fail
    refine (kd _).mono ?_; rintro e w' ⟨rfl, z3, rfl⟩
    go_wp2_with fail
    refine (kx _).mono ?_; rintro e w' ⟨rfl, z4, rfl⟩
    go_wp2_with fail
    refine (ky _).mono ?_; rintro e w' ⟨rfl, z5, rfl⟩
    go_wp2_with fail
    refine (alive_any _).mono ?_; rintro e w' ⟨rfl, z6, rfl⟩
    go_wp2_with fail
    go_ret
    exact ⟨rfl, (.of (by repeat (first | (with_reducible exact Ext.refl _) | (with_reducible refine Ext.up ?_ _) | (with_reducible refine Ext.alloc ?_ _) | (with_reducible refine Ext.drew ?_) | (with_reducible refine Ext.setRow ?_ (by first | exact LeS.le | exact LeS.add _ | (simp; done) | (simp; omega)) _) | (with_reducible refine Ext.setCell ?_ (by first | exact LeS.le | exact LeS.add _ | (simp; done) | (simp; omega)) _))))⟩
  obtain ⟨r1, r2, r3⟩ := hrun rfl rfl (hfull rfl rfl rfl)
  have kr1 := kR1 rfl rfl
  have kr2 := kR2 rfl rfl
  clear hfull hrun kR1 kR2
  rw [r1, r2] at kr1
  rw [r3] at kr2
  clear r1 r2 r3
  generalize storeOf (runAll (valsOf s3) [y, x]).1 = S at *
  generalize runV (valsOf s3) x = E1 at *
  generalize runV (valsOf s3) y = E2 at *
  go_wp2_with fail
  refine (kc _).mono ?_; rintro e w' ⟨rfl, z1, rfl⟩
  go_wp2_with fail
  refine (ks _).mono ?_; rintro e w' ⟨rfl, z2, rfl⟩
  go_wp2_with fail
  refine (kd _).mono ?_; rintro e w' ⟨rfl, z3, rfl⟩
  go_wp2_with fail
  refine (kx _).mono ?_; rintro e w' ⟨rfl, z4, rfl⟩
  go_wp2_with fail
  refine (ky _).mono ?_; rintro e w' ⟨rfl, z5, rfl⟩
  clear kc kd ks kx ky
  go_wp2_with fail
  have oS : SL (RF Ent.enc) 2 (z5.val.alloc (.cells #[.int .i64 1, .int .i64 40, .int .i64 2, .int .i64 8, .int .i64 3, .int .i64 900] 31)) (.slice (some ⟨z5.val.heap.size, 0, none⟩) 3 3) s3 :=
    Own.sl Ent.enc_length (Own.lit (lo := 0) (l := s3) rfl (Nat.zero_le _) rfl rfl Ent.enc_length (by decide))
  have OS := Lib.hid oS; clear oS
  refine (kr1 _ _ _ (OS.out.up (by repeat (first | (with_reducible exact Ext.refl _) | (with_reducible refine Ext.up ?_ _) | (with_reducible refine Ext.alloc ?_ _) | (with_reducible refine Ext.drew ?_) | (with_reducible refine Ext.setRow ?_ (by first | exact LeS.le | exact LeS.add _ | (simp; done) | (simp; omega)) _) | (with_reducible refine Ext.setCell ?_ (by first | exact LeS.le | exact LeS.add _ | (simp; done) | (simp; omega)) _)))) (Own.sl Actn.enc_length (Own.lit (lo := 0) (l := [x, y]) (by simp) (Nat.zero_le _) rfl rfl Actn.enc_length (by simp)))).mono ?_; rintro e w' ⟨v1, v2, ts, rfl, ⟨z6, rfl⟩, o1, oe, hts⟩
  have hse := oe.se
  rw [hts] at hse
  obtain ⟨b1, f1, g1, p1, c1, p1', c1', q1, d1, q1', d1', rfl, hb1, a0, a1, a2, a3, a4, a5, ⟨s1, s2⟩, s3', s4⟩ := hse.two
  obtain ⟨px, cx, rfl, _, _⟩ := (o1.sl Ent.enc_length).openc
  have O1 := Lib.hid o1; have S1 := Lib.hid s1; have S2 := Lib.hid s2; have S3 := Lib.hid s3'; have S4 := Lib.hid s4
  clear kr1 o1 oe hts hse s1 s2 s3' s4
  go_wp2_with fail
  refine (kr2 _ _ _ (OS.out.up (by repeat (first | (with_reducible exact Ext.refl _) | (with_reducible refine Ext.up ?_ _) | (with_reducible refine Ext.alloc ?_ _) | (with_reducible refine Ext.drew ?_) | (with_reducible refine Ext.setRow ?_ (by first | exact LeS.le | exact LeS.add _ | (simp; done) | (simp; omega)) _) | (with_reducible refine Ext.setCell ?_ (by first | exact LeS.le | exact LeS.add _ | (simp; done) | (simp; omega)) _)))) (Own.sl Actn.enc_length (Own.lit (lo := 0) (l := [y, x]) (by simp) (Nat.zero_le _) rfl rfl Actn.enc_length (by simp)))).mono ?_; rintro e w' ⟨v3, v4, ts', rfl, ⟨z7, rfl⟩, o2, oe, hts⟩
  have hse := oe.se
  rw [hts] at hse
  obtain ⟨b2, f2, g2, p2, c2, p2', c2', q2, d2, q2', d2', rfl, hb2, e0, e1, e2, e3, e4, e5, ⟨s1, s2⟩, s3', s4⟩ := hse.two
  obtain ⟨py, cy, rfl, _, _⟩ := (o2.sl Ent.enc_length).openc
  have O2 := Lib.hid o2; have S5 := Lib.hid s1; have S6 := Lib.hid s2; have S7 := Lib.hid s3'; have S8 := Lib.hid s4
  clear kr2 o2 oe hts hse s1 s2 s3' s4
  have hL1 : LtS b1 z6.val := ⟨hb1⟩
  have hL2 : LtS b2 z7.val := ⟨hb2⟩
  clear hb1 hb2
  go_wp2_with fail
  (refine wp_region_up (by kernel_rfl) (by kernel_rfl) ?_; (repeat (go_big_quiet_step (first | (go_at_call 20; with_reducible exact Calls.up (sameStore_same S _ _ _ ((O1.out.sl Ent.enc_length).up (by repeat (first | (with_reducible exact Ext.refl _) | (with_reducible refine Ext.up ?_ _) | (with_reducible refine Ext.alloc ?_ _) | (with_reducible refine Ext.drew ?_) | (with_reducible refine Ext.setRow ?_ (by first | exact LeS.le | exact LeS.add _ | (simp; done) | (simp; omega)) _) | (with_reducible refine Ext.setCell ?_ (by first | exact LeS.le | exact LeS.add _ | (simp; done) | (simp; omega)) _)))) ((O2.out.sl Ent.enc_length).up (by repeat (first | (with_reducible exact Ext.refl _) | (with_reducible refine Ext.up ?_ _) | (with_reducible refine Ext.alloc ?_ _) | (with_reducible refine Ext.drew ?_) | (with_reducible refine Ext.setRow ?_ (by first | exact LeS.le | exact LeS.add _ | (simp; done) | (simp; omega)) _) | (with_reducible refine Ext.setCell ?_ (by first | exact LeS.le | exact LeS.add _ | (simp; done) | (simp; omega)) _)))))) | (go_at_call 21; with_reducible exact Calls.up (sameEffect_same E1.d E1.r E1.w _ _ _ _ _ (S1.out.up (by repeat (first | (with_reducible exact Ext.refl _) | (with_reducible refine Ext.up ?_ _) | (with_reducible refine Ext.alloc ?_ _) | (with_reducible refine Ext.drew ?_) | (with_reducible refine Ext.setRow ?_ (by first | exact LeS.le | exact LeS.add _ | (simp; done) | (simp; omega)) _) | (with_reducible refine Ext.setCell ?_ (by first | exact LeS.le | exact LeS.add _ | (simp; done) | (simp; omega)) _)))) (S2.out.up (by repeat (first | (with_reducible exact Ext.refl _) | (with_reducible refine Ext.up ?_ _) | (with_reducible refine Ext.alloc ?_ _) | (with_reducible refine Ext.drew ?_) | (with_reducible refine Ext.setRow ?_ (by first | exact LeS.le | exact LeS.add _ | (simp; done) | (simp; omega)) _) | (with_reducible refine Ext.setCell ?_ (by first | exact LeS.le | exact LeS.add _ | (simp; done) | (simp; omega)) _)))) (S7.out.up (by repeat (first | (with_reducible exact Ext.refl _) | (with_reducible refine Ext.up ?_ _) | (with_reducible refine Ext.alloc ?_ _) | (with_reducible refine Ext.drew ?_) | (with_reducible refine Ext.setRow ?_ (by first | exact LeS.le | exact LeS.add _ | (simp; done) | (simp; omega)) _) | (with_reducible refine Ext.setCell ?_ (by first | exact LeS.le | exact LeS.add _ | (simp; done) | (simp; omega)) _)))) (S8.out.up (by repeat (first | (with_reducible exact Ext.refl _) | (with_reducible refine Ext.up ?_ _) | (with_reducible refine Ext.alloc ?_ _) | (with_reducible refine Ext.drew ?_) | (with_reducible refine Ext.setRow ?_ (by first | exact LeS.le | exact LeS.add _ | (simp; done) | (simp; omega)) _) | (with_reducible refine Ext.setCell ?_ (by first | exact LeS.le | exact LeS.add _ | (simp; done) | (simp; omega)) _)))))) | (go_at_call 21; with_reducible exact Calls.up (sameEffect_same E2.d E2.r E2.w _ _ _ _ _ (S3.out.up (by repeat (first | (with_reducible exact Ext.refl _) | (with_reducible refine Ext.up ?_ _) | (with_reducible refine Ext.alloc ?_ _) | (with_reducible refine Ext.drew ?_) | (with_reducible refine Ext.setRow ?_ (by first | exact LeS.le | exact LeS.add _ | (simp; done) | (simp; omega)) _) | (with_reducible refine Ext.setCell ?_ (by first | exact LeS.le | exact LeS.add _ | (simp; done) | (simp; omega)) _)))) (S4.out.up (by repeat (first | (with_reducible exact Ext.refl _) | (with_reducible refine Ext.up ?_ _) | (with_reducible refine Ext.alloc ?_ _) | (with_reducible refine Ext.drew ?_) | (with_reducible refine Ext.setRow ?_ (by first | exact LeS.le | exact LeS.add _ | (simp; done) | (simp; omega)) _) | (with_reducible refine Ext.setCell ?_ (by first | exact LeS.le | exact LeS.add _ | (simp; done) | (simp; omega)) _)))) (S5.out.up (by repeat (first | (with_reducible exact Ext.refl _) | (with_reducible refine Ext.up ?_ _) | (with_reducible refine Ext.alloc ?_ _) | (with_reducible refine Ext.drew ?_) | (with_reducible refine Ext.setRow ?_ (by first | exact LeS.le | exact LeS.add _ | (simp; done) | (simp; omega)) _) | (with_reducible refine Ext.setCell ?_ (by first | exact LeS.le | exact LeS.add _ | (simp; done) | (simp; omega)) _)))) (S6.out.up (by repeat (first | (with_reducible exact Ext.refl _) | (with_reducible refine Ext.up ?_ _) | (with_reducible refine Ext.alloc ?_ _) | (with_reducible refine Ext.drew ?_) | (with_reducible refine Ext.setRow ?_ (by first | exact LeS.le | exact LeS.add _ | (simp; done) | (simp; omega)) _) | (with_reducible refine Ext.setCell ?_ (by first | exact LeS.le | exact LeS.add _ | (simp; done) | (simp; omega)) _))))))))); refine wpQuiet_nil ?_; intro _ hw'; obtain ⟨zq, hw''⟩ := hw'; subst hw'')
  go_wp2_with fail
  go_ret
  exact ⟨rfl, (.of (by repeat (first | (with_reducible exact Ext.refl _) | (with_reducible refine Ext.up ?_ _) | (with_reducible refine Ext.alloc ?_ _) | (with_reducible refine Ext.drew ?_) | (with_reducible refine Ext.setRow ?_ (by first | exact LeS.le | exact LeS.add _ | (simp; done) | (simp; omega)) _) | (with_reducible refine Ext.setCell ?_ (by first | exact LeS.le | exact LeS.add _ | (simp; done) | (simp; omega)) _))))⟩
end Go.Proofs.Ytkboefmkfpnpjaa
namespace Go.Proofs.Ytkboefmkfpnpjaa
open Go.ChangeShapes Go.WideShapes Go.ChangeAt Go.RowKit

def RByte (_ : World) (cs : List Value) (n : Int) : Prop := cs = encU n ∧ 0 ≤ n ∧ n ≤ 255
theorem SL.of_byte {w : World} {v : Value} {l : List Int} (h : SL RByte 1 w v l) : SL (RF encU) 1 w v l ∧ ∀ b ∈ l, 0 ≤ b ∧ b ≤ 255 := by
  obtain ⟨a, cap, hv, hl, hc⟩ := h
  refine ⟨⟨a, cap, hv, hl, fun hne => ?_⟩, fun b hb => ?_⟩
  · obtain ⟨b, off, ha, hb, hx⟩ := hc hne
    refine ⟨b, off, ha, hb, fun i x hi => ?_⟩
    obtain ⟨cs, h1, h2, h3⟩ := hx i x hi
    exact ⟨cs, h1, h2, h3.1⟩
  · obtain ⟨i, hi⟩ := List.getElem?_of_mem hb
    obtain ⟨_, _, _, _, hx⟩ := hc (by intro e; subst e; simp at hb)
    obtain ⟨_, _, _, h3⟩ := hx i b hi
    exact h3.2
theorem dec_Byte : Dec Try.prog 5 1 RByte := by
  intro H enc W sp held fuel cs x h
  obtain ⟨n, rfl, _, hw⟩ := DataW.trod_int (k := .u8) Try.underlying5 h
  have hb : 0 ≤ n ∧ n ≤ 255 := by
    simp [Lit.wf, IntKind.min, IntKind.max, IntKind.signed, IntKind.bits] at hw
    omega
  exact ⟨rfl, n, rfl, hb.1, hb.2⟩
theorem dec_Bytes : Dec Try.prog 22 1 (RSl RByte 1) := dec_slice Try.underlying22 (by kernel_rfl) (by decide) dec_Byte
end Go.Proofs.Ytkboefmkfpnpjaa
namespace Go.Proofs.Ytkboefmkfpnpjaa
open Go Go.RowKit Go.Proofs

end Go.Proofs.Ytkboefmkfpnpjaa
namespace Go.Proofs.Ytkboefmkfpnpjaa
open Go Go.RowKit Go.Proofs

/-- One block more in a slice of blocks of the call's own. -/
theorem OB.snoc {eB eA lo : Nat} {w w' : World} {v v' : Value} {bs : List TB} {x : TB} (h : OB eB eA lo w v bs) (hg : w.grownBy w' v.ownBlock) (hb : v'.ownBlock = v.ownBlock ∨ v'.ownBlock = some w.heap.size)
    (ho : Own TB.enc eB 6 lo w' v' (bs ++ [x])) (hx : Own Actn.enc eA 4 lo w x.v x.l) (ax : Apart x.v v) (ap : ∀ y ∈ bs, Apart y.v x.v) : OB eB eA lo w' v' (bs ++ [x]) := by
  refine ⟨ho, fun y hy => ?_, ?_⟩
  · rcases List.mem_append.1 hy with hy | hy
    · obtain ⟨a1, a2⟩ := h.2.1 y hy
      exact ⟨a1.keep hg a2, Apart.grown a1 a2 (Nat.le_refl _) hb⟩
    · rw [List.mem_singleton] at hy; subst hy
      exact ⟨hx.keep hg ax, Apart.grown hx ax (Nat.le_refl _) hb⟩
  · rw [List.pairwise_append]
    refine ⟨h.2.2, List.pairwise_singleton _ _, fun y hy z hz => ?_⟩
    rw [List.mem_singleton] at hz; subst hz
    exact ap y hy
theorem keepRow0 {α : Type} {enc : α → List Value} {e sz lo rb : Nat} {w W1 w7 : World} {v : Value} {l : List α} {o r : Obj} (hG : w.grownBy W1 (some rb)) (hown : Own enc e sz lo W1 v l) (hlt : rb < lo) (hw : w.heap.size ≤ lo) (hr : W1.heap[rb]? = some r) (g8 : (W1.alloc o).grownBy w7 v.ownBlock) :
    w7.heap[rb]? = some r ∧ w.grownBy w7 (some rb) := by
  have hs : rb < W1.heap.size := (Array.getElem?_eq_some_iff.1 hr).1
  constructor
  · refine (g8.block rb (by simp; omega) (fun e => ?_)).trans ((heap_alloc_old W1 o hs).trans hr)
    rcases hown.ne_rb hlt with h | h
    · rw [h] at e; cases e
    · exact h e.symm
  · have hG2 := GB.alloc hG o
    refine ⟨g8.os.trans hG2.os, g8.tape.trans hG2.tape, g8.output.trans hG2.output, Nat.le_trans hG2.size g8.size, fun n hn hne => ?_⟩
    refine (g8.block n (Nat.lt_of_lt_of_le hn hG2.size) (fun e => ?_)).trans (hG2.block n hn hne)
    have := (World.ownsRow.lt hown n e.symm).1
    omega
/-- A tree's three slices, of the call's own, no two in one block. -/
structure OTA (eE eB eA eI lo : Nat) (w : World) (v0 v1 v2 : Value) (base : List Ent) (bs : List TB) (pr : List Int) : Prop where
  obase : Own Ent.enc eE 2 lo w v0 base
  obs : OB eB eA lo w v1 bs
  opr : Own encI eI 1 lo w v2 pr
  a01 : Apart v0 v1
  a21 : Apart v2 v1
  a02 : Apart v0 v2
  in0 : ∀ x ∈ bs, Apart x.v v0
  in2 : ∀ x ∈ bs, Apart x.v v2
theorem OTA.st {eE eB eA eI lo : Nat} {w : World} {v0 v1 v2 : Value} {base : List Ent} {bs : List TB} {pr : List Int} (h : OTA eE eB eA eI lo w v0 v1 v2 base bs pr) : ST w v0 v1 v2 ⟨base, bs.map TB.core, pr⟩ :=
  ⟨h.obase.sl Ent.enc_length, h.obs.sb, h.opr.sl encI_length⟩
theorem OTA.st' {eE eB eA eI lo : Nat} {w : World} {v0 v1 v2 : Value} {bs : List TB} {t : Tree} (h : OTA eE eB eA eI lo w v0 v1 v2 t.base bs t.pr) (hb : bs.map TB.core = t.bs) : ST w v0 v1 v2 t := by
  have := h.st
  rw [hb] at this
  exact this
theorem OTA.up {eE eB eA eI lo : Nat} {w w' : World} {v0 v1 v2 : Value} {base : List Ent} {bs : List TB} {pr : List Int} (h : OTA eE eB eA eI lo w v0 v1 v2 base bs pr) (hE : Ext w w') : OTA eE eB eA eI lo w' v0 v1 v2 base bs pr :=
  ⟨h.obase.up hE, h.obs.up hE, h.opr.up hE, h.a01, h.a21, h.a02, h.in0, h.in2⟩
theorem OTA.lo {eE eB eA eI lo lo' : Nat} {w : World} {v0 v1 v2 : Value} {base : List Ent} {bs : List TB} {pr : List Int} (h : OTA eE eB eA eI lo w v0 v1 v2 base bs pr) (hl : lo' ≤ lo) : OTA eE eB eA eI lo' w v0 v1 v2 base bs pr :=
  ⟨h.obase.lo hl, h.obs.lo hl, h.opr.lo hl, h.a01, h.a21, h.a02, h.in0, h.in2⟩
end Go.Proofs.Ytkboefmkfpnpjaa
namespace Go.Proofs.Ytkboefmkfpnpjaa
open Go Go.RowKit Go.Proofs

theorem Own.setApart {α : Type} {enc : α → List Value} {e sz lo : Nat} {w : World} {v : Value} {l : List α} (h : Own enc e sz lo w v l) {g : Nat} (i : Nat) (u : Value) (hap : v.ownBlock = none ∨ v.ownBlock ≠ some g) : Own enc e sz lo (w.setCell ⟨g, i, none⟩ u) v l :=
  h.kept (grownBy_set w ⟨g, i, none⟩ u) hap
theorem Keep.setCell {hi : Nat} {w w' : World} (h : Keep hi w w') {g : Nat} (i : Nat) (u : Value) (hg : g < hi) : Keep hi w (w'.setCell ⟨g, i, none⟩ u) :=
  h.trans ⟨(grownBy_set w' ⟨g, i, none⟩ u).size, fun k hk hs => (grownBy_set w' ⟨g, i, none⟩ u).block k hs (fun e => by
    have e' : k = g := by simpa using e
    omega)⟩
end Go.Proofs.Ytkboefmkfpnpjaa
namespace Go.Proofs.Ytkboefmkfpnpjaa
open Go Go.RowKit Go.Proofs

section
variable {eE eB eA eI lo : Nat} {w w' : World} {v0 v1 v2 : Value} {base : List Ent} {bs : List TB} {pr : List Int}
theorem off_row {α : Type} {enc : α → List Value} {e sz : Nat} {v : Value} {l : List α} (h : Own enc e sz lo w v l) {X : Nat} (hX : X < lo ∨ w.heap.size ≤ X) : v.ownBlock ≠ some X := by
  intro e
  have := World.ownsRow.lt h X e
  omega
theorem OTA.set (h : OTA eE eB eA eI lo w v0 v1 v2 base bs pr) {X : Nat} (i : Nat) (u : Value) (h0 : v0.ownBlock ≠ some X) (h1 : v1.ownBlock ≠ some X) (h2 : v2.ownBlock ≠ some X) (hb : ∀ x ∈ bs, x.v.ownBlock ≠ some X) :
    OTA eE eB eA eI lo (w.setCell ⟨X, i, none⟩ u) v0 v1 v2 base bs pr :=
  ⟨h.obase.setApart i u (.inr h0), ⟨h.obs.1.setApart i u (.inr h1), fun x hx => ⟨(h.obs.2.1 x hx).1.setApart i u (.inr (hb x hx)), (h.obs.2.1 x hx).2⟩, h.obs.2.2⟩, h.opr.setApart i u (.inr h2), h.a01, h.a21, h.a02, h.in0, h.in2⟩
theorem OTA.setOld (h : OTA eE eB eA eI lo w v0 v1 v2 base bs pr) (a : Addr) (u : Value) (hlt : a.block < lo) : OTA eE eB eA eI lo (w.setCell a u) v0 v1 v2 base bs pr :=
  ⟨h.obase.setOld a u hlt, h.obs.setOld a u hlt, h.opr.setOld a u hlt, h.a01, h.a21, h.a02, h.in0, h.in2⟩
theorem OTA.off (h : OTA eE eB eA eI lo w v0 v1 v2 base bs pr) {X : Nat} (hX : X < lo ∨ w.heap.size ≤ X) : v0.ownBlock ≠ some X ∧ v1.ownBlock ≠ some X ∧ v2.ownBlock ≠ some X ∧ ∀ x ∈ bs, x.v.ownBlock ≠ some X :=
  ⟨off_row h.obase hX, off_row h.obs.1 hX, off_row h.opr hX, fun x hx => off_row (h.obs.2.1 x hx).1 hX⟩
theorem OTA.new {α : Type} {enc : α → List Value} {e sz lo' : Nat} {w2 : World} {v : Value} {l : List α} (h : OTA eE eB eA eI lo w v0 v1 v2 base bs pr) (o : Own enc e sz lo' w2 v l) (hl : w.heap.size ≤ lo') : Apart v0 v ∧ Apart v1 v ∧ Apart v2 v ∧ ∀ x ∈ bs, Apart x.v v :=
  ⟨Apart.of_lt h.obase o hl, Apart.of_lt h.obs.1 o hl, Apart.of_lt h.opr o hl, fun x hx => Apart.of_lt (h.obs.2.1 x hx).1 o hl⟩
theorem OTA.snocB {v1' : Value} {x : TB} (h : OTA eE eB eA eI lo w v0 v1 v2 base bs pr) (hg : w.grownBy w' v1.ownBlock) (hb : v1'.ownBlock = v1.ownBlock ∨ v1'.ownBlock = some w.heap.size)
    (ho : Own TB.enc eB 6 lo w' v1' (bs ++ [x])) (hx : Own Actn.enc eA 4 lo w x.v x.l) (a0 : Apart v0 x.v) (a1 : Apart v1 x.v) (a2 : Apart v2 x.v) (ab : ∀ y ∈ bs, Apart y.v x.v) : OTA eE eB eA eI lo w' v0 v1' v2 base (bs ++ [x]) pr := by
  refine ⟨h.obase.keep hg h.a01, h.obs.snoc hg hb ho hx a1.symm ab, h.opr.keep hg h.a21, Apart.grown h.obase h.a01 (Nat.le_refl _) hb, Apart.grown h.opr h.a21 (Nat.le_refl _) hb, h.a02, fun y hy => ?_, fun y hy => ?_⟩
  · rcases List.mem_append.1 hy with hy | hy
    · exact h.in0 y hy
    · rw [List.mem_singleton] at hy; subst hy; exact a0.symm
  · rcases List.mem_append.1 hy with hy | hy
    · exact h.in2 y hy
    · rw [List.mem_singleton] at hy; subst hy; exact a2.symm
theorem OTA.snocI {v2' : Value} {n : Int} (h : OTA eE eB eA eI lo w v0 v1 v2 base bs pr) (hg : w.grownBy w' v2.ownBlock) (hb : v2'.ownBlock = v2.ownBlock ∨ v2'.ownBlock = some w.heap.size)
    (ho : Own encI eI 1 lo w' v2' (pr ++ [n])) : OTA eE eB eA eI lo w' v0 v1 v2' base bs (pr ++ [n]) := by
  refine ⟨h.obase.keep hg h.a02, ⟨h.obs.1.keep hg h.a21.symm, fun x hx => ⟨(h.obs.2.1 x hx).1.keep hg (h.in2 x hx), (h.obs.2.1 x hx).2⟩, h.obs.2.2⟩, ho, h.a01, ?_, Apart.grown h.obase h.a02 (Nat.le_refl _) hb, h.in0, fun x hx => Apart.grown (h.obs.2.1 x hx).1 (h.in2 x hx) (Nat.le_refl _) hb⟩
  exact (Apart.grown h.obs.1 h.a21.symm (Nat.le_refl _) hb).symm
theorem OTA.upR {rb : Nat} (h : OTA eE eB eA eI lo w v0 v1 v2 base bs pr) (hlt : rb < lo) (z : ExtR rb w) : OTA eE eB eA eI lo z.val v0 v1 v2 base bs pr :=
  ⟨h.obase.upR hlt z, ⟨h.obs.1.upR hlt z, fun x hx => ⟨(h.obs.2.1 x hx).1.upR hlt z, (h.obs.2.1 x hx).2⟩, h.obs.2.2⟩, h.opr.upR hlt z, h.a01, h.a21, h.a02, h.in0, h.in2⟩
theorem OT.ota {hi : Nat} (h : OT eE eB eA eI lo hi w v0 v1 v2 base bs pr) : OTA eE eB eA eI lo w v0 v1 v2 base bs pr := by
  obtain ⟨s1, s2, a, b, c, h1, h2, h3, h4, h5, h6, h7⟩ := h
  exact ⟨h1, h3.lo a, h6.lo (by omega), (h3.1.apartU h2 (Nat.le_refl _)).symm, h6.apartU h4 (Nat.le_refl _), (h6.apartU (h2.le b) (Nat.le_refl _)).symm, fun x hx => (h3.2.1 x hx).1.apartU h2 (Nat.le_refl _), fun x hx => (h6.apartU (h5 x hx) (Nat.le_refl _)).symm⟩
end
end Go.Proofs.Ytkboefmkfpnpjaa
namespace Go.Proofs.Ytkboefmkfpnpjaa
open Go Go.RowKit Go.Proofs

theorem S_of_gb {W w' : World} {rb : Nat} (h : W.grownBy w' (some rb)) : (∀ n i, ∀ [LtS n W] [NeS n rb], w'.cell? ⟨n, i, none⟩ = W.cell? ⟨n, i, none⟩) ∧ W.grownBy w' (some rb) := ⟨fun n i => (⟨w', h⟩ : ExtR rb W).cell n i, h⟩
theorem S_of_gbX {W w' : World} {rb G : Nat} (h : W.grownBy w' (some rb)) : ∀ n i, ∀ [LtS n W] [NeS n rb] [NeS n G], w'.cell? ⟨n, i, none⟩ = W.cell? ⟨n, i, none⟩ := fun n i => (⟨w', h⟩ : ExtR rb W).cell n i
theorem cell_setX (W : World) (G j : Nat) (a : Value) (n i : Nat) [h : NeS n G] : (W.setCell ⟨G, j, none⟩ a).cell? ⟨n, i, none⟩ = W.cell? ⟨n, i, none⟩ := by
  simp only [World.cell?, Below.heap_setCell W ⟨G, j, none⟩ a n h.ne]
/-- The tree in the box G while it grows; the result's box stands empty at the call's first number. -/
structure LT (eT eE eB eA eI rb G : Nat) (w wr : World) (u0 u1 u2 : Value) (t : Tree) (bs : List TB) : Prop where
  gb : w.grownBy wr (some rb)
  box : wr.heap[G]? = some (.cells #[u0, u1, u2] eT (0, 0))
  res : wr.heap[w.heap.size]? = some (.cells #[.slice none 0 0, .slice none 0 0, .slice none 0 0] eT (0, 0))
  ot : OTA eE eB eA eI (w.heap.size + 1) wr u0 u1 u2 t.base bs t.pr
  core : bs.map TB.core = t.bs
  ok : t.ok = true
  off : u0.ownBlock ≠ some G ∧ u1.ownBlock ≠ some G ∧ u2.ownBlock ≠ some G ∧ ∀ x ∈ bs, x.v.ownBlock ≠ some G
section
variable {eT eE eB eA eI rb G : Nat} {w wr : World} {u0 u1 u2 : Value} {t : Tree} {bs : List TB}
theorem LT.ltG (h : LT eT eE eB eA eI rb G w wr u0 u1 u2 t bs) : G < wr.heap.size := (Array.getElem?_eq_some_iff.1 h.box).1
theorem LT.ltR (h : LT eT eE eB eA eI rb G w wr u0 u1 u2 t bs) : w.heap.size < wr.heap.size := (Array.getElem?_eq_some_iff.1 h.res).1
theorem LT.st (h : LT eT eE eB eA eI rb G w wr u0 u1 u2 t bs) : ST wr u0 u1 u2 t := h.ot.st' h.core
theorem LT.upR (h : LT eT eE eB eA eI rb G w wr u0 u1 u2 t bs) (hrb : rb < w.heap.size) (hG : w.heap.size < G) (z : ExtR rb wr) : LT eT eE eB eA eI rb G w z.val u0 u1 u2 t bs :=
  ⟨grownBy_trans h.gb z.grown, (z.block h.ltG (by omega)).trans h.box, (z.block h.ltR (by omega)).trans h.res, h.ot.upR (by omega) z, h.core, h.ok, h.off⟩
theorem LT.up {w' : World} (h : LT eT eE eB eA eI rb G w wr u0 u1 u2 t bs) (hE : Ext wr w') : LT eT eE eB eA eI rb G w w' u0 u1 u2 t bs :=
  ⟨grownBy_trans h.gb (grownBy_ext hE), (hE.block h.ltG).trans h.box, (hE.block h.ltR).trans h.res, h.ot.up hE, h.core, h.ok, h.off⟩
theorem LT.setOff {B : Nat} (h : LT eT eE eB eA eI rb G w wr u0 u1 u2 t bs) (i : Nat) (u : Value) (hB : B ≠ G) (hR : w.heap.size < B) (hoff : u0.ownBlock ≠ some B ∧ u1.ownBlock ≠ some B ∧ u2.ownBlock ≠ some B ∧ ∀ x ∈ bs, x.v.ownBlock ≠ some B) :
    LT eT eE eB eA eI rb G w (wr.setCell ⟨B, i, none⟩ u) u0 u1 u2 t bs :=
  ⟨GB.setNew h.gb (by omega) i u, (Below.heap_setCell _ _ _ _ (Ne.symm hB)).trans h.box, (Below.heap_setCell _ _ _ _ (by dsimp only; omega)).trans h.res, h.ot.set i u hoff.1 hoff.2.1 hoff.2.2.1 hoff.2.2.2, h.core, h.ok, h.off⟩
theorem LT.put {lo : Nat} {y0 y1 y2 : Value} {t' : Tree} {bs' : List TB} (h : LT eT eE eB eA eI rb G w wr u0 u1 u2 t bs) (hG : w.heap.size < G) (ho : OTA eE eB eA eI lo wr y0 y1 y2 t'.base bs' t'.pr) (hlo : G < lo) (hc : bs'.map TB.core = t'.bs) (hk : t'.ok = true) :
    LT eT eE eB eA eI rb G w (((wr.setCell ⟨G, 0, none⟩ y0).setCell ⟨G, 1, none⟩ y1).setCell ⟨G, 2, none⟩ y2) y0 y1 y2 t' bs' := by
  have of := ho.off (X := G) (.inl hlo)
  refine ⟨GB.setNew (GB.setNew (GB.setNew h.gb (by omega) _ _) (by omega) _ _) (by omega) _ _, ?_, ?_, ?_, hc, hk, of⟩
  · exact (heap_setCell_same _ _ 2 _ _ _ ((heap_setCell_same _ _ 1 _ _ _ ((heap_setCell_same _ _ 0 _ _ _ h.box).trans rfl)).trans rfl)).trans rfl
  · exact (Below.heap_setCell _ _ _ _ (by dsimp only; omega)).trans ((Below.heap_setCell _ _ _ _ (by dsimp only; omega)).trans ((Below.heap_setCell _ _ _ _ (by dsimp only; omega)).trans h.res))
  · exact (((ho.set 0 y0 of.1 of.2.1 of.2.2.1 of.2.2.2).set 1 y1 of.1 of.2.1 of.2.2.1 of.2.2.2).set 2 y2 of.1 of.2.1 of.2.2.1 of.2.2.2).lo (by omega)
theorem LT.start {lo : Nat} {y0 y1 y2 : Value} (gb : w.grownBy wr (some rb)) (hres : wr.heap[w.heap.size]? = some (.cells #[.slice none 0 0, .slice none 0 0, .slice none 0 0] eT (0, 0))) (ho : OTA eE eB eA eI lo wr y0 y1 y2 t.base bs t.pr) (hlo : w.heap.size + 1 ≤ lo) (hc : bs.map TB.core = t.bs) (hk : t.ok = true) :
    LT eT eE eB eA eI rb wr.heap.size w (wr.alloc (.cells #[y0, y1, y2] eT)) y0 y1 y2 t bs := by
  have of := ho.off (X := wr.heap.size) (.inr (Nat.le_refl _))
  have hlt : w.heap.size < wr.heap.size := (Array.getElem?_eq_some_iff.1 hres).1
  exact ⟨GB.alloc gb _, heap_alloc_new _ _, (heap_alloc_old _ _ hlt).trans hres, (ho.up ((Ext.refl _).alloc _)).lo hlo, hc, hk, of⟩
/-- The tree's block number m, cell for cell. -/
theorem LT.blk (h : LT eT eE eB eA eI rb G w wr u0 u1 u2 t bs) (hrb : rb < w.heap.size) {m : Nat} (hm : m < t.bs.length) : ∃ (xb : Blk) (xl : List Actn) (pv : Option Addr) (cv : Nat) (b off c1 : Nat), u1 = .slice (some ⟨b, off, none⟩) t.bs.length c1 ∧ LtS b wr ∧ NeS b rb ∧ NeS b G ∧
    wr.cell? ⟨b, off + m * 6, none⟩ = some (.int .i64 xb.bf) ∧ wr.cell? ⟨b, off + m * 6 + 1, none⟩ = some (.int .i64 xb.ht) ∧ wr.cell? ⟨b, off + m * 6 + 2, none⟩ = some (.int .i64 xb.vw) ∧ wr.cell? ⟨b, off + m * 6 + 3, none⟩ = some (.slice pv xl.length cv) ∧ wr.cell? ⟨b, off + m * 6 + 4, none⟩ = some (.int .i64 xb.rt) ∧ wr.cell? ⟨b, off + m * 6 + 5, none⟩ = some (.int .i64 xb.ef) ∧
    Own Actn.enc eA 4 (w.heap.size + 1) wr (.slice pv xl.length cv) xl ∧ (Value.slice pv xl.length cv).ownBlock ≠ some G := by
  have hlen : bs.length = t.bs.length := by rw [← h.core, List.length_map]
  obtain ⟨x, hx⟩ := getElem?_some_of_lt (l := bs) (k := m) (by omega)
  obtain ⟨a, c1, hv, _, hc⟩ := (h.ot.obs.1.sl TB.enc_length).open
  obtain ⟨b, off, rfl, hb, hcell⟩ := hc m x hx
  have hmem := List.mem_of_getElem? hx
  have hown := (h.ot.obs.2.1 x hmem).1
  have hoffx := h.off.2.2.2 x hmem
  obtain ⟨xb, xv, xl⟩ := x
  obtain ⟨pv, cv, hpv, _, _⟩ := (hown.sl Actn.enc_length).openc
  simp only at hpv hown hoffx
  subst hpv
  have hrow : u1.ownBlock = some b := by rw [hv]; rfl
  refine ⟨xb, xl, pv, cv, b, off, c1, by rw [hv, hlen], hb, ⟨by have := (World.ownsRow.lt h.ot.obs.1 b hrow).1; omega⟩, ⟨fun e => h.off.2.1 (by rw [hrow, e])⟩, ?_, ?_, ?_, ?_, ?_, ?_, hown, hoffx⟩
  · simpa using hcell 0 _ rfl
  · exact hcell 1 _ rfl
  · exact hcell 2 _ rfl
  · exact hcell 3 _ rfl
  · exact hcell 4 _ rfl
  · exact hcell 5 _ rfl
end
theorem Rd.put {w0 w : World} {rb G : Nat} {lim : Int} (h : Rd w0 w rb lim) (y0 y1 y2 : Value) (hG : G ≠ rb) (h0 : w0.heap.size ≤ G) : Rd w0 (((w.setCell ⟨G, 0, none⟩ y0).setCell ⟨G, 1, none⟩ y1).setCell ⟨G, 2, none⟩ y2) rb lim :=
  ((h.set 0 y0 hG h0).set 1 y1 hG h0).set 2 y2 hG h0
end Go.Proofs.Ytkboefmkfpnpjaa
namespace Go.Proofs.Ytkboefmkfpnpjaa
open Go Go.RowKit Go.Proofs

theorem flatMap_set {α : Type} {enc : α → List Value} {sz : Nat} (he : ∀ x, (enc x).length = sz) {x' : α} {j : Nat} {u : Value} (hj : j < sz) : ∀ {l : List α} {k : Nat} {x : α}, l[k]? = some x → enc x' = (enc x).set j u → (l.flatMap enc).set (k * sz + j) u = (l.set k x').flatMap enc
  | [], k, x, h, _ => by simp at h
  | y :: l, 0, x, h, hu => by
    simp at h; subst h
    rw [List.set_cons_zero, List.flatMap_cons, List.flatMap_cons, hu, List.set_append_left _ _ (by rw [he]; omega)]
    simp
  | y :: l, k + 1, x, h, hu => by
    simp at h
    rw [List.set_cons_succ, List.flatMap_cons, List.flatMap_cons, List.set_append_right _ _ (by rw [he, Nat.succ_mul]; omega), he, show (k + 1) * sz + j - sz = k * sz + j from by rw [Nat.succ_mul]; omega]
    rw [flatMap_set he hj h hu]
theorem Own.setAt {α : Type} {enc : α → List Value} {e sz lo g n c : Nat} (he : ∀ x, (enc x).length = sz) {w : World} {l : List α} (h : Own enc e sz lo w (.slice (some ⟨g, 0, none⟩) n c) l) {k : Nat} {x x' : α} {j : Nat} {u : Value} (hx : l[k]? = some x) (hj : j < sz) (hu : enc x' = (enc x).set j u) :
    Own enc e sz lo (w.setCell ⟨g, k * sz + j, none⟩ u) (.slice (some ⟨g, 0, none⟩) n c) (l.set k x') := by
  have hn : n = l.length := by
    rcases h.2 with ⟨h0, _⟩ | ⟨g', cap', cur, hv, _⟩
    · cases h0
    · cases hv; rfl
  subst hn
  have h2 := (World.ownsRow.stored h (k * sz + j) u).1
  rw [flatMap_set he hj hx hu] at h2
  show World.ownsRow _ _ _ _ _ _ _
  rw [List.length_set]
  exact h2
section
variable {eE eB eA eI lo : Nat} {w w' : World} {v0 v1 v2 : Value} {base : List Ent} {bs : List TB} {pr : List Int}
theorem ob_pair {bs : List TB} : bs.Pairwise (fun x y => Apart x.v y.v) ↔ (bs.map TB.v).Pairwise Apart := by rw [List.pairwise_map]
theorem map_set_v {bs : List TB} {k : Nat} {x x' : TB} (hx : bs[k]? = some x) (hv : x'.v = x.v) : (bs.set k x').map TB.v = bs.map TB.v := by
  rw [List.map_set]
  apply List.ext_getElem?
  intro i
  rw [List.getElem?_set]
  split
  · rename_i e
    subst e
    split
    · rw [List.getElem?_map, hx, hv]; rfl
    · rename_i h1
      have := (List.getElem?_eq_some_iff.1 hx).1
      simp at h1; omega
  · rfl
theorem OTA.setB {g n c : Nat} (h : OTA eE eB eA eI lo w v0 (.slice (some ⟨g, 0, none⟩) n c) v2 base bs pr) {k : Nat} {x x' : TB} {j : Nat} {u : Value} (hx : bs[k]? = some x) (hj : j < 6) (hu : x'.enc = x.enc.set j u) (hv : x'.v = x.v) (hl : x'.l = x.l) :
    OTA eE eB eA eI lo (w.setCell ⟨g, k * 6 + j, none⟩ u) v0 (.slice (some ⟨g, 0, none⟩) n c) v2 base (bs.set k x') pr := by
  have hm := List.mem_of_getElem? hx
  have ne : ∀ v : Value, Apart v (.slice (some ⟨g, 0, none⟩) n c) → v.ownBlock = none ∨ v.ownBlock ≠ some g := fun v a => a
  have hmem : ∀ y ∈ bs.set k x', ∃ z ∈ bs, y.v = z.v ∧ y.l = z.l := fun y hy => by
    rcases List.mem_or_eq_of_mem_set hy with hy | rfl
    · exact ⟨y, hy, rfl, rfl⟩
    · exact ⟨x, hm, hv, hl⟩
  refine ⟨h.obase.setApart _ u (ne _ h.a01), ⟨Own.setAt TB.enc_length h.obs.1 hx hj hu, fun y hy => ?_, ?_⟩, h.opr.setApart _ u (ne _ h.a21), h.a01, h.a21, h.a02, fun y hy => ?_, fun y hy => ?_⟩
  · obtain ⟨z, hz, e1, e2⟩ := hmem y hy
    rw [e1, e2]
    exact ⟨(h.obs.2.1 z hz).1.setApart _ u (ne _ (h.obs.2.1 z hz).2), (h.obs.2.1 z hz).2⟩
  · rw [ob_pair, map_set_v hx hv, ← ob_pair]; exact h.obs.2.2
  · obtain ⟨z, hz, e1, _⟩ := hmem y hy
    rw [e1]; exact h.in0 z hz
  · obtain ⟨z, hz, e1, _⟩ := hmem y hy
    rw [e1]; exact h.in2 z hz
theorem OTA.setI {g n c : Nat} (h : OTA eE eB eA eI lo w v0 v1 (.slice (some ⟨g, 0, none⟩) n c) base bs pr) {k : Nat} {a b : Int} (hx : pr[k]? = some a) :
    OTA eE eB eA eI lo (w.setCell ⟨g, k, none⟩ (.int .i64 b)) v0 v1 (.slice (some ⟨g, 0, none⟩) n c) base bs (pr.set k b) := by
  have ne : ∀ v : Value, Apart v (.slice (some ⟨g, 0, none⟩) n c) → v.ownBlock = none ∨ v.ownBlock ≠ some g := fun v a => a
  have ho := Own.setAt encI_length h.opr (x' := b) (j := 0) (u := .int .i64 b) hx (by decide) rfl
  rw [Nat.mul_one, Nat.add_zero] at ho
  exact ⟨h.obase.setApart _ _ (ne _ h.a02), ⟨h.obs.1.setApart _ _ (ne _ h.a21.symm), fun x hx => ⟨(h.obs.2.1 x hx).1.setApart _ _ (ne _ (h.in2 x hx)), (h.obs.2.1 x hx).2⟩, h.obs.2.2⟩, ho, h.a01, h.a21, h.a02, h.in0, h.in2⟩
theorem OTA.snocE {v0' : Value} {x : Ent} (h : OTA eE eB eA eI lo w v0 v1 v2 base bs pr) (hg : w.grownBy w' v0.ownBlock) (hb : v0'.ownBlock = v0.ownBlock ∨ v0'.ownBlock = some w.heap.size)
    (ho : Own Ent.enc eE 2 lo w' v0' (base ++ [x])) : OTA eE eB eA eI lo w' v0' v1 v2 (base ++ [x]) bs pr := by
  refine ⟨ho, ⟨h.obs.1.keep hg h.a01.symm, fun x hx => ⟨(h.obs.2.1 x hx).1.keep hg (h.in0 x hx), (h.obs.2.1 x hx).2⟩, h.obs.2.2⟩, h.opr.keep hg h.a02.symm, ?_, h.a21, ?_, fun x hx => Apart.grown (h.obs.2.1 x hx).1 (h.in0 x hx) (Nat.le_refl _) hb, h.in2⟩
  · exact (Apart.grown h.obs.1 h.a01.symm (Nat.le_refl _) hb).symm
  · exact (Apart.grown h.opr h.a02.symm (Nat.le_refl _) hb).symm
theorem OTA.rowB {m : Nat} (h : OTA eE eB eA eI lo w v0 v1 v2 base bs pr) (hm : m < bs.length) : ∃ (g off c : Nat) (x : TB), v1 = .slice (some ⟨g, off, none⟩) bs.length c ∧ off = 0 ∧ bs[m]? = some x ∧ LtS g w ∧ lo ≤ g ∧ w.cell? ⟨g, off + m * 6 + 1, none⟩ = some (.int .i64 x.b.ht) ∧ w.frozen? ⟨g, off + m * 6 + 1, none⟩ = false := by
  obtain ⟨x, hx⟩ := getElem?_some_of_lt hm
  obtain ⟨a, c, hv, _, hcc⟩ := (h.obs.1.sl TB.enc_length).open
  rcases h.obs.1.2 with ⟨h0, hn⟩ | ⟨g, cap, cur, hv', hlo, hg, _⟩
  · omega
  · have h1 := h.obs.1
    rw [hv] at hv'
    cases hv'
    obtain ⟨b, off, e, _, hcell⟩ := hcc m x hx
    cases e
    subst hv
    exact ⟨g, 0, c, x, rfl, rfl, hx, ⟨(Array.getElem?_eq_some_iff.1 hg).1⟩, hlo, hcell 1 _ rfl, World.ownsRow.frozenAt h1 _⟩
theorem OTA.rowI {m : Nat} (h : OTA eE eB eA eI lo w v0 v1 v2 base bs pr) (hm : m < pr.length) : ∃ (g off c : Nat) (a : Int), v2 = .slice (some ⟨g, off, none⟩) pr.length c ∧ off = 0 ∧ pr[m]? = some a ∧ LtS g w ∧ lo ≤ g ∧ w.cell? ⟨g, off + m, none⟩ = some (.int .i64 a) ∧ w.frozen? ⟨g, off + m, none⟩ = false := by
  obtain ⟨x, hx⟩ := getElem?_some_of_lt hm
  obtain ⟨a, c, hv, _, hcc⟩ := (h.opr.sl encI_length).open
  rcases h.opr.2 with ⟨h0, hn⟩ | ⟨g, cap, cur, hv', hlo, hg, _⟩
  · omega
  · have h1 := h.opr
    rw [hv] at hv'
    cases hv'
    obtain ⟨b, off, e, _, hcell⟩ := hcc m x hx
    cases e
    subst hv
    have hc0 := hcell 0 _ rfl
    rw [Nat.mul_one, Nat.add_zero] at hc0
    exact ⟨g, 0, c, x, rfl, rfl, hx, ⟨(Array.getElem?_eq_some_iff.1 hg).1⟩, hlo, hc0, World.ownsRow.frozenAt h1 _⟩
end
/-- What LT keeps without 'valid': for the tree that is bent. -/
structure LB (eT eE eB eA eI rb G : Nat) (w wr : World) (u0 u1 u2 : Value) (t : Tree) (bs : List TB) : Prop where
  gb : w.grownBy wr (some rb)
  box : wr.heap[G]? = some (.cells #[u0, u1, u2] eT (0, 0))
  res : wr.heap[w.heap.size]? = some (.cells #[.slice none 0 0, .slice none 0 0, .slice none 0 0] eT (0, 0))
  ot : OTA eE eB eA eI (w.heap.size + 1) wr u0 u1 u2 t.base bs t.pr
  core : bs.map TB.core = t.bs
theorem LT.lb {eT eE eB eA eI rb G : Nat} {w wr : World} {u0 u1 u2 : Value} {t : Tree} {bs : List TB} (h : LT eT eE eB eA eI rb G w wr u0 u1 u2 t bs) : LB eT eE eB eA eI rb G w wr u0 u1 u2 t bs := ⟨h.gb, h.box, h.res, h.ot, h.core⟩
end Go.Proofs.Ytkboefmkfpnpjaa
