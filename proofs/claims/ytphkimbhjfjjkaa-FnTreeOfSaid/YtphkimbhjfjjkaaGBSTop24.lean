/- Walks: drawn blocks. Plain law: blocks with another view, another height or another root have another sum. -/
import Derived.Test.YtphkimbhjfjjkaaGBSTop09
import Derived.Test.YtphkimbhjfjjkaaGBSTop23
import Derived.Test.YtphkimbhjfjjkaaGBSTop05
set_option linter.unusedSimpArgs false
set_option linter.unusedVariables false
namespace Go.Proofs.Ytphkimbhjfjjkaa
open Go Go.RowKit Go.Proofs

set_option maxRecDepth 100000 in
set_option maxHeartbeats 8000000 in
theorem block_any (w0 w : World) (rb : Nat) (lim n : Int) (h : Rd w0 w rb lim) (hl : lim ≤ 10000) (hn0 : 0 ≤ n) (hn1 : n ≤ 1000000) :
    Calls Try.prog 79 #[.pointer (some ⟨rb, 0, none⟩), .int .i64 n] w fun e w' => ∃ (b : Blk) (v : Value) (l : List Actn), e = .returned (.agg #[.int .i64 b.bf, .int .i64 b.ht, .int .i64 b.vw, v, .int .i64 b.rt, .int .i64 b.ef]) ∧ (∃ z : ExtR rb w, w' = z.val) ∧ Rd w0 w' rb (lim + 9000) ∧ Own Actn.enc 71 4 w.heap.size w' v l := by
  have H := Lib.hid h
  have hLb : LtS rb w := ⟨h.lt⟩
  have hlt := h.lt
  have hold := h.old
  have hLe : w0.heap.size ≤ w.heap.size := h.ext.size
  clear h
  go_enter Try.func79, Try.ntmps79
  go_wp2_with fail
  refine (tree0_any w0 _ rb lim (H.out.up (by repeat (first | (with_reducible exact Ext.refl _) | (with_reducible refine Ext.up ?_ _) | (with_reducible refine Ext.alloc ?_ _) | (with_reducible refine Ext.drew ?_) | (with_reducible refine Ext.setRow ?_ (by first | exact LeS.le | exact LeS.add _ | (simp; done) | (simp; omega)) _) | (with_reducible refine Ext.setCell ?_ (by first | exact LeS.le | exact LeS.add _ | (simp; done) | (simp; omega)) _)))) (by omega)).mono ?_; rintro e w' ⟨u0, u1, u2, t, bs, rfl, hk, hc, ⟨zT, rfl⟩, hrT, ho⟩
  obtain ⟨-, hn1', hn14⟩ := Tree.lens hk
  obtain ⟨b, off, c1, rfl, hbL, hbl, hblk⟩ := ho.blks hc hn1'
  obtain ⟨p0, c0, rfl, _, _⟩ := (ho.obase.sl Ent.enc_length).openc
  obtain ⟨p2, c2, rfl, _, _⟩ := (ho.opr.sl encI_length).openc
  have hzT := zT.grown.size
  simp at hbl hzT
  have hNb : NeS b rb := ⟨by omega⟩
  have HRT := Lib.hid hrT
  have hLT : LtS rb zT.val := ⟨hrT.lt⟩
  have hbnd := (Tree.bounds hk).2.2.2
  clear hrT ho hc
  go_upto_region 2 with fail
  go_cut [6] (fun s6 wr => ∃ (Bx : Nat) (xb : Blk) (xl : List Actn) (pv : Option Addr) (cv : Nat), s6 = .pointer (some ⟨Bx, 0, none⟩) ∧ LtS Bx wr ∧ w.heap.size < Bx ∧ (∃ z : ExtR rb zT.val, wr = z.val) ∧ Rd w0 wr rb (lim + 6002) ∧ xl.length ≤ 1000 ∧ Own Actn.enc 71 4 w.heap.size wr (.slice pv xl.length cv) xl ∧ (Value.slice pv xl.length cv).ownBlock ≠ some Bx ∧ wr.cell? ⟨Bx, 0, none⟩ = some (.int .i64 xb.bf) ∧ wr.cell? ⟨Bx, 1, none⟩ = some (.int .i64 xb.ht) ∧ wr.cell? ⟨Bx, 2, none⟩ = some (.int .i64 xb.vw) ∧ wr.cell? ⟨Bx, 3, none⟩ = some (.slice pv xl.length cv) ∧ wr.cell? ⟨Bx, 4, none⟩ = some (.int .i64 xb.rt) ∧ wr.cell? ⟨Bx, 5, none⟩ = some (.int .i64 xb.ef) ∧ wr.frozen? ⟨Bx, 0, none⟩ = false ∧ wr.frozen? ⟨Bx, 1, none⟩ = false ∧ wr.frozen? ⟨Bx, 2, none⟩ = false ∧ wr.frozen? ⟨Bx, 3, none⟩ = false ∧ wr.frozen? ⟨Bx, 4, none⟩ = false ∧ wr.frozen? ⟨Bx, 5, none⟩ = false)
  case first =>
    (go_region_held3 (fun w' => (∀ n i, ∀ [LtS n (zT.val.alloc (.cells #[.slice p0 t.base.length c0, .slice (some ⟨b, off, none⟩) t.bs.length c1, .slice p2 t.pr.length c2] 42))] [NeS n rb], w'.cell? ⟨n, i, none⟩ = World.cell? (zT.val.alloc (.cells #[.slice p0 t.base.length c0, .slice (some ⟨b, off, none⟩) t.bs.length c1, .slice p2 t.pr.length c2] 42)) ⟨n, i, none⟩) ∧ World.grownBy (zT.val.alloc (.cells #[.slice p0 t.base.length c0, .slice (some ⟨b, off, none⟩) t.bs.length c1, .slice p2 t.pr.length c2] 42)) w' (some rb)) ((refine S_of_gb ?_; (repeat (first | (with_reducible exact grownBy_refl _ _) | (with_reducible refine GB.setNew ?_ (by first | exact LeS.le | exact LeS.add _ | (simp; done) | (simp; omega)) _ _) | (with_reducible refine GB.alloc ?_ _) | (with_reducible refine GB.drew ?_) | (with_reducible refine GB.upR ?_ _) | (with_reducible refine GB.up ?_ _))); done)) (first | (go_at_call 87; (with_reducible refine (pick_any w0 _ rb _ (t.bs.length : Int) (HRT.out.up (by repeat (first | (with_reducible exact Ext.refl _) | (with_reducible refine Ext.up ?_ _) | (with_reducible refine Ext.alloc ?_ _) | (with_reducible refine Ext.drew ?_) | (with_reducible refine Ext.setRow ?_ (by first | exact LeS.le | exact LeS.add _ | (simp; done) | (simp; omega)) _) | (with_reducible refine Ext.setCell ?_ (by first | exact LeS.le | exact LeS.add _ | (simp; done) | (simp; omega)) _)))) (by omega) (by omega) (by omega)).mono ?_); rintro e w' ⟨q, rfl, q0, q1, _, ⟨z1, rfl⟩, hr1⟩; have HR1 := Lib.hid hr1; have hq := q1 (by omega); clear hr1 q1; obtain ⟨j, hj⟩ : ∃ j : Nat, q = (j : Int) := ⟨q.toNat, by omega⟩; subst hj; obtain ⟨xb, xl, pv, cv, hxm, e0, e1, e2, e3, e4, e5, hxo⟩ := hblk j (by omega); have hxl := hbnd _ (List.mem_of_getElem? hxm); clear hxm; have HX := Lib.hid (hxo.lo (lo' := w.heap.size + 1) (by simp)); have hNX := fun X (h : zT.val.heap.size ≤ X) => Own.ne_out hxo X (.inr h); clear hxo) | fail))
    all_goals go_wp2_with fail
    all_goals go_meet
    all_goals
      have h1 := z1.grown.size
      simp at h1 hxl
      refine ⟨_, xb, xl, pv, cv, rfl, by infer_instance, by (try simp) <;> omega, ExtR.of (by repeat (first | (with_reducible exact grownBy_refl _ _) | (with_reducible refine GB.setNew ?_ (by first | exact LeS.le | exact LeS.add _ | (simp; done) | (simp; omega)) _ _) | (with_reducible refine GB.alloc ?_ _) | (with_reducible refine GB.drew ?_) | (with_reducible refine GB.upR ?_ _) | (with_reducible refine GB.up ?_ _))), ?_, by omega, ?_, ?_, by go_simp, by go_simp, by go_simp, by go_simp, by go_simp, by go_simp, by go_simp, by go_simp, by go_simp, by go_simp, by go_simp, by go_simp⟩
      · refine Rd.mono (a := lim + 6000 + 1) ?_ (by omega)
        (repeat (with_reducible refine Rd.set ?_ _ _ (by omega) (by omega)))
        exact HR1.out.up (by repeat (first | (with_reducible exact Ext.refl _) | (with_reducible refine Ext.up ?_ _) | (with_reducible refine Ext.alloc ?_ _) | (with_reducible refine Ext.drew ?_) | (with_reducible refine Ext.setRow ?_ (by first | exact LeS.le | exact LeS.add _ | (simp; done) | (simp; omega)) _) | (with_reducible refine Ext.setCell ?_ (by first | exact LeS.le | exact LeS.add _ | (simp; done) | (simp; omega)) _)))
      · refine Own.lo (lo := w.heap.size + 1) ?_ (by omega)
        (repeat (with_reducible refine Own.setApart ?_ _ _ (.inr (hNX _ (by (try simp) <;> omega)))))
        first | exact (HX.out.up (by repeat (first | (with_reducible exact Ext.refl _) | (with_reducible refine Ext.up ?_ _) | (with_reducible refine Ext.alloc ?_ _) | (with_reducible refine Ext.drew ?_) | (with_reducible refine Ext.setRow ?_ (by first | exact LeS.le | exact LeS.add _ | (simp; done) | (simp; omega)) _) | (with_reducible refine Ext.setCell ?_ (by first | exact LeS.le | exact LeS.add _ | (simp; done) | (simp; omega)) _)))).upR (by (try simp) <;> omega) z1 | exact ((HX.out.up (by repeat (first | (with_reducible exact Ext.refl _) | (with_reducible refine Ext.up ?_ _) | (with_reducible refine Ext.alloc ?_ _) | (with_reducible refine Ext.drew ?_) | (with_reducible refine Ext.setRow ?_ (by first | exact LeS.le | exact LeS.add _ | (simp; done) | (simp; omega)) _) | (with_reducible refine Ext.setCell ?_ (by first | exact LeS.le | exact LeS.add _ | (simp; done) | (simp; omega)) _)))).upR (by (try simp) <;> omega) z1).alloc
      · exact hNX _ (by (try simp) <;> omega)
  case rest =>
    obtain ⟨Bx, xb, xl, pv, cv, rfl, hLB, hBw, ⟨zA, rfl⟩, hrA, hxl, hxo, hxn, x0, x1, x2, x3, x4, x5, f0, f1, f2, f3, f4, f5⟩ := hcut
    have HRA := Lib.hid hrA; have HXA := Lib.hid hxo
    have hLA : LtS rb zA.val := ⟨hrA.lt⟩
    have hzA := zA.grown.size
    have hBlt := hLB.lt
    have hNBr : NeS Bx rb := ⟨by omega⟩
    have hNRr : NeS w.heap.size rb := ⟨by omega⟩
    have hNBR : NeS Bx w.heap.size := ⟨by omega⟩
    have hNRB : NeS w.heap.size Bx := ⟨by omega⟩
    have hgT : w.grownBy zA.val (some rb) := grownBy_trans (GB.upR (GB.alloc (grownBy_refl w _) _) zT) zA.grown
    clear hrA hxo hblk hbnd
    go_wp2_with (at_builtin; refine wpList_clone fActn Actn.enc Actn.enc_length (lo := zA.val.heap.size) xl rfl (.tmp 18) (.tmp 20) rfl rfl rfl (heap_alloc_at (by simp)) (by first | exact LeS.le | omega | (simp; omega)) ((HXA.out.sl Actn.enc_length).up (by repeat (first | (with_reducible exact Ext.refl _) | (with_reducible refine Ext.up ?_ _) | (with_reducible refine Ext.alloc ?_ _) | (with_reducible refine Ext.drew ?_) | (with_reducible refine Ext.setRow ?_ (by first | exact LeS.le | exact LeS.add _ | (simp; done) | (simp; omega)) _) | (with_reducible refine Ext.setCell ?_ (by first | exact LeS.le | exact LeS.add _ | (simp; done) | (simp; omega)) _)))) (oneAs _) (by omega) (by omega) ?_; intro v8 z8 o8 b8; obtain ⟨p8, c8, hv8, _, _⟩ := (o8.sl Actn.enc_length).openc; subst hv8; have O8 := Lib.hid o8; have hN8 := Own.ne_out o8 Bx (.inl hBlt); clear o8 b8)
    generalize hW : World.setCell z8.val ⟨Bx, 3, none⟩ (.slice p8 xl.length c8) = W3
    have hV := hW.symm; clear hW
    have k0 : W3.cell? ⟨Bx, 0, none⟩ = some (.int .i64 xb.bf) := by rw [hV]; go_simp
    have k1 : W3.cell? ⟨Bx, 1, none⟩ = some (.int .i64 xb.ht) := by rw [hV]; go_simp
    have k2 : W3.cell? ⟨Bx, 2, none⟩ = some (.int .i64 xb.vw) := by rw [hV]; go_simp
    have k3 : W3.cell? ⟨Bx, 3, none⟩ = some (.slice p8 xl.length c8) := by rw [hV]; go_simp
    have k4 : W3.cell? ⟨Bx, 4, none⟩ = some (.int .i64 xb.rt) := by rw [hV]; go_simp
    have k5 : W3.cell? ⟨Bx, 5, none⟩ = some (.int .i64 xb.ef) := by rw [hV]; go_simp
    have kf0 : W3.frozen? ⟨Bx, 0, none⟩ = false := by rw [hV]; go_simp
    have kf1 : W3.frozen? ⟨Bx, 1, none⟩ = false := by rw [hV]; go_simp
    have kf2 : W3.frozen? ⟨Bx, 2, none⟩ = false := by rw [hV]; go_simp
    have kf3 : W3.frozen? ⟨Bx, 3, none⟩ = false := by rw [hV]; go_simp
    have kf4 : W3.frozen? ⟨Bx, 4, none⟩ = false := by rw [hV]; go_simp
    have kf5 : W3.frozen? ⟨Bx, 5, none⟩ = false := by rw [hV]; go_simp
    have q0 : W3.cell? ⟨w.heap.size, 0, none⟩ = some (.int .i64 0) := by rw [hV]; go_simp
    have q1 : W3.cell? ⟨w.heap.size, 1, none⟩ = some (.int .i64 0) := by rw [hV]; go_simp
    have q2 : W3.cell? ⟨w.heap.size, 2, none⟩ = some (.int .i64 0) := by rw [hV]; go_simp
    have q3 : W3.cell? ⟨w.heap.size, 3, none⟩ = some (.slice none 0 0) := by rw [hV]; go_simp
    have q4 : W3.cell? ⟨w.heap.size, 4, none⟩ = some (.int .i64 0) := by rw [hV]; go_simp
    have q5 : W3.cell? ⟨w.heap.size, 5, none⟩ = some (.int .i64 0) := by rw [hV]; go_simp
    have qf0 : W3.frozen? ⟨w.heap.size, 0, none⟩ = false := by rw [hV]; go_simp
    have qf1 : W3.frozen? ⟨w.heap.size, 1, none⟩ = false := by rw [hV]; go_simp
    have qf2 : W3.frozen? ⟨w.heap.size, 2, none⟩ = false := by rw [hV]; go_simp
    have qf3 : W3.frozen? ⟨w.heap.size, 3, none⟩ = false := by rw [hV]; go_simp
    have qf4 : W3.frozen? ⟨w.heap.size, 4, none⟩ = false := by rw [hV]; go_simp
    have qf5 : W3.frozen? ⟨w.heap.size, 5, none⟩ = false := by rw [hV]; go_simp
    have hR3 : Rd w0 W3 rb (lim + 6002) := by rw [hV]; exact (HRA.out.up (by repeat (first | (with_reducible exact Ext.refl _) | (with_reducible refine Ext.up ?_ _) | (with_reducible refine Ext.alloc ?_ _) | (with_reducible refine Ext.drew ?_) | (with_reducible refine Ext.setRow ?_ (by first | exact LeS.le | exact LeS.add _ | (simp; done) | (simp; omega)) _) | (with_reducible refine Ext.setCell ?_ (by first | exact LeS.le | exact LeS.add _ | (simp; done) | (simp; omega)) _)))).set 3 _ (by omega) (by omega)
    have hg3 : w.grownBy W3 (some rb) := by rw [hV]; exact GB.setNew (GB.up (GB.alloc hgT _) z8) (by omega) _ _
    have ho3 : Own Actn.enc 71 4 zA.val.heap.size W3 (.slice p8 xl.length c8) xl := by rw [hV]; exact O8.out.setApart 3 _ (.inr hN8)
    have hl3 : Bx < W3.heap.size := by rw [hV]; have := z8.ext.size; simp [setCell_sz] at this ⊢; omega
    clear hV x0 x1 x2 x3 x4 x5 f0 f1 f2 f3 f4 f5 O8 HXA HRA HRT
    obtain ⟨z3, rfl⟩ := ExtR.of hg3
    have HR3 := Lib.hid hR3; have HO3 := Lib.hid ho3; have HG3 := Lib.hid hg3
    have hLB3 : LtS Bx z3.val := ⟨hl3⟩
    have hLR3 : LtS w.heap.size z3.val := ⟨by omega⟩
    have hLr3 : LtS rb z3.val := ⟨hR3.lt⟩
    clear hR3 hg3 ho3
    refine (odd_any w0 _ rb _ n (HR3.out.up (by repeat (first | (with_reducible exact Ext.refl _) | (with_reducible refine Ext.up ?_ _) | (with_reducible refine Ext.alloc ?_ _) | (with_reducible refine Ext.drew ?_) | (with_reducible refine Ext.setRow ?_ (by first | exact LeS.le | exact LeS.add _ | (simp; done) | (simp; omega)) _) | (with_reducible refine Ext.setCell ?_ (by first | exact LeS.le | exact LeS.add _ | (simp; done) | (simp; omega)) _)))) (by omega) (by omega) (by omega)).mono ?_; rintro e w' ⟨bo, rfl, _, ⟨z4, rfl⟩, hr4⟩
    have HR4 := Lib.hid hr4
    have hLr4 : LtS rb z4.val := ⟨hr4.lt⟩
    have HO4 := Lib.hid (HO3.out.upR (by omega) z4)
    clear hr4
    rcases bo with _ | _
    · go_wp2_with fail
      have r0 : z4.val.cell? ⟨w.heap.size, 0, none⟩ = some (.int .i64 0) := by go_simp
      have r1 : z4.val.cell? ⟨w.heap.size, 1, none⟩ = some (.int .i64 0) := by go_simp
      have r2 : z4.val.cell? ⟨w.heap.size, 2, none⟩ = some (.int .i64 0) := by go_simp
      have r3 : z4.val.cell? ⟨w.heap.size, 3, none⟩ = some (.slice none 0 0) := by go_simp
      have r4 : z4.val.cell? ⟨w.heap.size, 4, none⟩ = some (.int .i64 0) := by go_simp
      have r5 : z4.val.cell? ⟨w.heap.size, 5, none⟩ = some (.int .i64 0) := by go_simp
      refine bodyPost_ret (v := .agg #[.int .i64 xb.bf, .int .i64 xb.ht, .int .i64 xb.vw, .slice p8 xl.length c8, .int .i64 xb.rt, .int .i64 xb.ef]) (by simp [results, Try.results79, go_sem, r0, r1, r2, r3, r4, r5]) rfl ?_
      refine ⟨⟨xb.bf, xb.ht, xb.vw, xb.rt, xb.ef⟩, _, xl, rfl, ExtR.of ?_, ?_, ?_⟩
      · (repeat (with_reducible refine GB.setNew ?_ (by omega) _ _))
        exact  GB.upR HG3.out z4
      · refine Rd.mono (a := lim + 6002 + 1) ?_ (by omega)
        (repeat (with_reducible refine Rd.set ?_ _ _ (by omega) (by omega)))
        exact HR4.out
      · refine Own.lo (lo := zA.val.heap.size) ?_ (by omega)
        (repeat (with_reducible refine Own.setOld ?_ _ _ (by dsimp only; omega)))
        exact HO4.out
    go_wp2_with fail
    refine (pick_any w0 _ rb _ 5 (HR4.out.up (by repeat (first | (with_reducible exact Ext.refl _) | (with_reducible refine Ext.up ?_ _) | (with_reducible refine Ext.alloc ?_ _) | (with_reducible refine Ext.drew ?_) | (with_reducible refine Ext.setRow ?_ (by first | exact LeS.le | exact LeS.add _ | (simp; done) | (simp; omega)) _) | (with_reducible refine Ext.setCell ?_ (by first | exact LeS.le | exact LeS.add _ | (simp; done) | (simp; omega)) _)))) (by omega) (by omega) (by omega)).mono ?_; rintro e w' ⟨q, rfl, qq0, qq1, _, ⟨z5, rfl⟩, hr5⟩
    have HR5 := Lib.hid hr5; have hq := qq1 (by omega)
    have hLr5 : LtS rb z5.val := ⟨hr5.lt⟩
    have HO5 := Lib.hid (HO4.out.upR (by omega) z5)
    clear hr5 qq1
    rcases (show q = 0 ∨ q = 1 ∨ q = 2 ∨ q = 3 ∨ q = 4 by omega) with rfl | rfl | rfl | rfl | rfl
    · go_wp2_with fail
      refine (pick_any w0 _ rb _ 2 (HR5.out.up (by repeat (first | (with_reducible exact Ext.refl _) | (with_reducible refine Ext.up ?_ _) | (with_reducible refine Ext.alloc ?_ _) | (with_reducible refine Ext.drew ?_) | (with_reducible refine Ext.setRow ?_ (by first | exact LeS.le | exact LeS.add _ | (simp; done) | (simp; omega)) _) | (with_reducible refine Ext.setCell ?_ (by first | exact LeS.le | exact LeS.add _ | (simp; done) | (simp; omega)) _)))) (by omega) (by omega) (by omega)).mono ?_; rintro e w' ⟨y, rfl, y0, y1, _, ⟨z6, rfl⟩, hr6⟩
      have HR6 := Lib.hid hr6; have hy := y1 (by omega)
      have HO6 := Lib.hid ((HO5.out.up (by repeat (first | (with_reducible exact Ext.refl _) | (with_reducible refine Ext.up ?_ _) | (with_reducible refine Ext.alloc ?_ _) | (with_reducible refine Ext.drew ?_) | (with_reducible refine Ext.setRow ?_ (by first | exact LeS.le | exact LeS.add _ | (simp; done) | (simp; omega)) _) | (with_reducible refine Ext.setCell ?_ (by first | exact LeS.le | exact LeS.add _ | (simp; done) | (simp; omega)) _)))).upR (by omega) z6)
      clear hr6 y1
      rcases (show y = 0 ∨ y = 1 by omega) with rfl | rfl
      · go_wp2_with fail
        have r0 : z6.val.cell? ⟨w.heap.size, 0, none⟩ = some (.int .i64 0) := by go_simp
        have r1 : z6.val.cell? ⟨w.heap.size, 1, none⟩ = some (.int .i64 0) := by go_simp
        have r2 : z6.val.cell? ⟨w.heap.size, 2, none⟩ = some (.int .i64 0) := by go_simp
        have r3 : z6.val.cell? ⟨w.heap.size, 3, none⟩ = some (.slice none 0 0) := by go_simp
        have r4 : z6.val.cell? ⟨w.heap.size, 4, none⟩ = some (.int .i64 0) := by go_simp
        have r5 : z6.val.cell? ⟨w.heap.size, 5, none⟩ = some (.int .i64 0) := by go_simp
        refine bodyPost_ret (v := .agg #[.int .i64 xb.bf, .int .i64 xb.ht, .int .i64 xb.vw, .slice p8 xl.length c8, .int .i64 (-1), .int .i64 xb.ef]) (by simp [results, Try.results79, go_sem, r0, r1, r2, r3, r4, r5]) rfl ?_
        refine ⟨⟨xb.bf, xb.ht, xb.vw, ((-1)), xb.ef⟩, _, xl, rfl, ExtR.of ?_, ?_, ?_⟩
        · (repeat (with_reducible refine GB.setNew ?_ (by omega) _ _))
          exact  GB.upR (GB.alloc (GB.upR (GB.upR HG3.out z4) z5) _) z6
        · refine Rd.mono (a := lim + 6002 + 1 + 1 + 1) ?_ (by omega)
          (repeat (with_reducible refine Rd.set ?_ _ _ (by omega) (by omega)))
          exact HR6.out
        · refine Own.lo (lo := zA.val.heap.size) ?_ (by omega)
          (repeat (with_reducible refine Own.setOld ?_ _ _ (by dsimp only; omega)))
          exact HO6.out
      · go_wp2_with fail
        have r0 : z6.val.cell? ⟨w.heap.size, 0, none⟩ = some (.int .i64 0) := by go_simp
        have r1 : z6.val.cell? ⟨w.heap.size, 1, none⟩ = some (.int .i64 0) := by go_simp
        have r2 : z6.val.cell? ⟨w.heap.size, 2, none⟩ = some (.int .i64 0) := by go_simp
        have r3 : z6.val.cell? ⟨w.heap.size, 3, none⟩ = some (.slice none 0 0) := by go_simp
        have r4 : z6.val.cell? ⟨w.heap.size, 4, none⟩ = some (.int .i64 0) := by go_simp
        have r5 : z6.val.cell? ⟨w.heap.size, 5, none⟩ = some (.int .i64 0) := by go_simp
        refine bodyPost_ret (v := .agg #[.int .i64 xb.bf, .int .i64 xb.ht, .int .i64 xb.vw, .slice p8 xl.length c8, .int .i64 1000003, .int .i64 xb.ef]) (by simp [results, Try.results79, go_sem, r0, r1, r2, r3, r4, r5]) rfl ?_
        refine ⟨⟨xb.bf, xb.ht, xb.vw, (1000003), xb.ef⟩, _, xl, rfl, ExtR.of ?_, ?_, ?_⟩
        · (repeat (with_reducible refine GB.setNew ?_ (by omega) _ _))
          exact  GB.upR (GB.alloc (GB.upR (GB.upR HG3.out z4) z5) _) z6
        · refine Rd.mono (a := lim + 6002 + 1 + 1 + 1) ?_ (by omega)
          (repeat (with_reducible refine Rd.set ?_ _ _ (by omega) (by omega)))
          exact HR6.out
        · refine Own.lo (lo := zA.val.heap.size) ?_ (by omega)
          (repeat (with_reducible refine Own.setOld ?_ _ _ (by dsimp only; omega)))
          exact HO6.out
    · go_wp2_with fail
      refine (pick_any w0 _ rb _ 2 (HR5.out.up (by repeat (first | (with_reducible exact Ext.refl _) | (with_reducible refine Ext.up ?_ _) | (with_reducible refine Ext.alloc ?_ _) | (with_reducible refine Ext.drew ?_) | (with_reducible refine Ext.setRow ?_ (by first | exact LeS.le | exact LeS.add _ | (simp; done) | (simp; omega)) _) | (with_reducible refine Ext.setCell ?_ (by first | exact LeS.le | exact LeS.add _ | (simp; done) | (simp; omega)) _)))) (by omega) (by omega) (by omega)).mono ?_; rintro e w' ⟨y, rfl, y0, y1, _, ⟨z6, rfl⟩, hr6⟩
      have HR6 := Lib.hid hr6; have hy := y1 (by omega)
      have HO6 := Lib.hid ((HO5.out.up (by repeat (first | (with_reducible exact Ext.refl _) | (with_reducible refine Ext.up ?_ _) | (with_reducible refine Ext.alloc ?_ _) | (with_reducible refine Ext.drew ?_) | (with_reducible refine Ext.setRow ?_ (by first | exact LeS.le | exact LeS.add _ | (simp; done) | (simp; omega)) _) | (with_reducible refine Ext.setCell ?_ (by first | exact LeS.le | exact LeS.add _ | (simp; done) | (simp; omega)) _)))).upR (by omega) z6)
      clear hr6 y1
      rcases (show y = 0 ∨ y = 1 by omega) with rfl | rfl
      · go_wp2_with fail
        have r0 : z6.val.cell? ⟨w.heap.size, 0, none⟩ = some (.int .i64 0) := by go_simp
        have r1 : z6.val.cell? ⟨w.heap.size, 1, none⟩ = some (.int .i64 0) := by go_simp
        have r2 : z6.val.cell? ⟨w.heap.size, 2, none⟩ = some (.int .i64 0) := by go_simp
        have r3 : z6.val.cell? ⟨w.heap.size, 3, none⟩ = some (.slice none 0 0) := by go_simp
        have r4 : z6.val.cell? ⟨w.heap.size, 4, none⟩ = some (.int .i64 0) := by go_simp
        have r5 : z6.val.cell? ⟨w.heap.size, 5, none⟩ = some (.int .i64 0) := by go_simp
        refine bodyPost_ret (v := .agg #[.int .i64 xb.bf, .int .i64 xb.ht, .int .i64 (-1), .slice p8 xl.length c8, .int .i64 xb.rt, .int .i64 xb.ef]) (by simp [results, Try.results79, go_sem, r0, r1, r2, r3, r4, r5]) rfl ?_
        refine ⟨⟨xb.bf, xb.ht, ((-1)), xb.rt, xb.ef⟩, _, xl, rfl, ExtR.of ?_, ?_, ?_⟩
        · (repeat (with_reducible refine GB.setNew ?_ (by omega) _ _))
          exact  GB.upR (GB.alloc (GB.upR (GB.upR HG3.out z4) z5) _) z6
        · refine Rd.mono (a := lim + 6002 + 1 + 1 + 1) ?_ (by omega)
          (repeat (with_reducible refine Rd.set ?_ _ _ (by omega) (by omega)))
          exact HR6.out
        · refine Own.lo (lo := zA.val.heap.size) ?_ (by omega)
          (repeat (with_reducible refine Own.setOld ?_ _ _ (by dsimp only; omega)))
          exact HO6.out
      · go_wp2_with fail
        have r0 : z6.val.cell? ⟨w.heap.size, 0, none⟩ = some (.int .i64 0) := by go_simp
        have r1 : z6.val.cell? ⟨w.heap.size, 1, none⟩ = some (.int .i64 0) := by go_simp
        have r2 : z6.val.cell? ⟨w.heap.size, 2, none⟩ = some (.int .i64 0) := by go_simp
        have r3 : z6.val.cell? ⟨w.heap.size, 3, none⟩ = some (.slice none 0 0) := by go_simp
        have r4 : z6.val.cell? ⟨w.heap.size, 4, none⟩ = some (.int .i64 0) := by go_simp
        have r5 : z6.val.cell? ⟨w.heap.size, 5, none⟩ = some (.int .i64 0) := by go_simp
        refine bodyPost_ret (v := .agg #[.int .i64 xb.bf, .int .i64 xb.ht, .int .i64 1001, .slice p8 xl.length c8, .int .i64 xb.rt, .int .i64 xb.ef]) (by simp [results, Try.results79, go_sem, r0, r1, r2, r3, r4, r5]) rfl ?_
        refine ⟨⟨xb.bf, xb.ht, (1001), xb.rt, xb.ef⟩, _, xl, rfl, ExtR.of ?_, ?_, ?_⟩
        · (repeat (with_reducible refine GB.setNew ?_ (by omega) _ _))
          exact  GB.upR (GB.alloc (GB.upR (GB.upR HG3.out z4) z5) _) z6
        · refine Rd.mono (a := lim + 6002 + 1 + 1 + 1) ?_ (by omega)
          (repeat (with_reducible refine Rd.set ?_ _ _ (by omega) (by omega)))
          exact HR6.out
        · refine Own.lo (lo := zA.val.heap.size) ?_ (by omega)
          (repeat (with_reducible refine Own.setOld ?_ _ _ (by dsimp only; omega)))
          exact HO6.out
    · go_wp2_with fail
      refine (pick_any w0 _ rb _ 3 (HR5.out.up (by repeat (first | (with_reducible exact Ext.refl _) | (with_reducible refine Ext.up ?_ _) | (with_reducible refine Ext.alloc ?_ _) | (with_reducible refine Ext.drew ?_) | (with_reducible refine Ext.setRow ?_ (by first | exact LeS.le | exact LeS.add _ | (simp; done) | (simp; omega)) _) | (with_reducible refine Ext.setCell ?_ (by first | exact LeS.le | exact LeS.add _ | (simp; done) | (simp; omega)) _)))) (by omega) (by omega) (by omega)).mono ?_; rintro e w' ⟨y, rfl, y0, y1, _, ⟨z6, rfl⟩, hr6⟩
      have HR6 := Lib.hid hr6; have hy := y1 (by omega)
      have HO6 := Lib.hid ((HO5.out.up (by repeat (first | (with_reducible exact Ext.refl _) | (with_reducible refine Ext.up ?_ _) | (with_reducible refine Ext.alloc ?_ _) | (with_reducible refine Ext.drew ?_) | (with_reducible refine Ext.setRow ?_ (by first | exact LeS.le | exact LeS.add _ | (simp; done) | (simp; omega)) _) | (with_reducible refine Ext.setCell ?_ (by first | exact LeS.le | exact LeS.add _ | (simp; done) | (simp; omega)) _)))).upR (by omega) z6)
      clear hr6 y1
      rcases (show y = 0 ∨ y = 1 ∨ y = 2 by omega) with rfl | rfl | rfl
      · go_wp2_with fail
        have r0 : z6.val.cell? ⟨w.heap.size, 0, none⟩ = some (.int .i64 0) := by go_simp
        have r1 : z6.val.cell? ⟨w.heap.size, 1, none⟩ = some (.int .i64 0) := by go_simp
        have r2 : z6.val.cell? ⟨w.heap.size, 2, none⟩ = some (.int .i64 0) := by go_simp
        have r3 : z6.val.cell? ⟨w.heap.size, 3, none⟩ = some (.slice none 0 0) := by go_simp
        have r4 : z6.val.cell? ⟨w.heap.size, 4, none⟩ = some (.int .i64 0) := by go_simp
        have r5 : z6.val.cell? ⟨w.heap.size, 5, none⟩ = some (.int .i64 0) := by go_simp
        refine bodyPost_ret (v := .agg #[.int .i64 xb.bf, .int .i64 (-1), .int .i64 xb.vw, .slice p8 xl.length c8, .int .i64 xb.rt, .int .i64 xb.ef]) (by simp [results, Try.results79, go_sem, r0, r1, r2, r3, r4, r5]) rfl ?_
        refine ⟨⟨xb.bf, ((-1)), xb.vw, xb.rt, xb.ef⟩, _, xl, rfl, ExtR.of ?_, ?_, ?_⟩
        · (repeat (with_reducible refine GB.setNew ?_ (by omega) _ _))
          exact  GB.upR (GB.alloc (GB.upR (GB.upR HG3.out z4) z5) _) z6
        · refine Rd.mono (a := lim + 6002 + 1 + 1 + 1) ?_ (by omega)
          (repeat (with_reducible refine Rd.set ?_ _ _ (by omega) (by omega)))
          exact HR6.out
        · refine Own.lo (lo := zA.val.heap.size) ?_ (by omega)
          (repeat (with_reducible refine Own.setOld ?_ _ _ (by dsimp only; omega)))
          exact HO6.out
      · go_wp2_with fail
        have r0 : z6.val.cell? ⟨w.heap.size, 0, none⟩ = some (.int .i64 0) := by go_simp
        have r1 : z6.val.cell? ⟨w.heap.size, 1, none⟩ = some (.int .i64 0) := by go_simp
        have r2 : z6.val.cell? ⟨w.heap.size, 2, none⟩ = some (.int .i64 0) := by go_simp
        have r3 : z6.val.cell? ⟨w.heap.size, 3, none⟩ = some (.slice none 0 0) := by go_simp
        have r4 : z6.val.cell? ⟨w.heap.size, 4, none⟩ = some (.int .i64 0) := by go_simp
        have r5 : z6.val.cell? ⟨w.heap.size, 5, none⟩ = some (.int .i64 0) := by go_simp
        refine bodyPost_ret (v := .agg #[.int .i64 xb.bf, .int .i64 101, .int .i64 xb.vw, .slice p8 xl.length c8, .int .i64 xb.rt, .int .i64 xb.ef]) (by simp [results, Try.results79, go_sem, r0, r1, r2, r3, r4, r5]) rfl ?_
        refine ⟨⟨xb.bf, (101), xb.vw, xb.rt, xb.ef⟩, _, xl, rfl, ExtR.of ?_, ?_, ?_⟩
        · (repeat (with_reducible refine GB.setNew ?_ (by omega) _ _))
          exact  GB.upR (GB.alloc (GB.upR (GB.upR HG3.out z4) z5) _) z6
        · refine Rd.mono (a := lim + 6002 + 1 + 1 + 1) ?_ (by omega)
          (repeat (with_reducible refine Rd.set ?_ _ _ (by omega) (by omega)))
          exact HR6.out
        · refine Own.lo (lo := zA.val.heap.size) ?_ (by omega)
          (repeat (with_reducible refine Own.setOld ?_ _ _ (by dsimp only; omega)))
          exact HO6.out
      · go_wp2_with fail
        have r0 : z6.val.cell? ⟨w.heap.size, 0, none⟩ = some (.int .i64 0) := by go_simp
        have r1 : z6.val.cell? ⟨w.heap.size, 1, none⟩ = some (.int .i64 0) := by go_simp
        have r2 : z6.val.cell? ⟨w.heap.size, 2, none⟩ = some (.int .i64 0) := by go_simp
        have r3 : z6.val.cell? ⟨w.heap.size, 3, none⟩ = some (.slice none 0 0) := by go_simp
        have r4 : z6.val.cell? ⟨w.heap.size, 4, none⟩ = some (.int .i64 0) := by go_simp
        have r5 : z6.val.cell? ⟨w.heap.size, 5, none⟩ = some (.int .i64 0) := by go_simp
        refine bodyPost_ret (v := .agg #[.int .i64 xb.bf, .int .i64 100, .int .i64 xb.vw, .slice p8 xl.length c8, .int .i64 xb.rt, .int .i64 xb.ef]) (by simp [results, Try.results79, go_sem, r0, r1, r2, r3, r4, r5]) rfl ?_
        refine ⟨⟨xb.bf, (100), xb.vw, xb.rt, xb.ef⟩, _, xl, rfl, ExtR.of ?_, ?_, ?_⟩
        · (repeat (with_reducible refine GB.setNew ?_ (by omega) _ _))
          exact  GB.upR (GB.alloc (GB.upR (GB.upR HG3.out z4) z5) _) z6
        · refine Rd.mono (a := lim + 6002 + 1 + 1 + 1) ?_ (by omega)
          (repeat (with_reducible refine Rd.set ?_ _ _ (by omega) (by omega)))
          exact HR6.out
        · refine Own.lo (lo := zA.val.heap.size) ?_ (by omega)
          (repeat (with_reducible refine Own.setOld ?_ _ _ (by dsimp only; omega)))
          exact HO6.out
    · go_wp2_with fail
      refine (actions_any w0 _ rb _ 1 (HR5.out.up (by repeat (first | (with_reducible exact Ext.refl _) | (with_reducible refine Ext.up ?_ _) | (with_reducible refine Ext.alloc ?_ _) | (with_reducible refine Ext.drew ?_) | (with_reducible refine Ext.setRow ?_ (by first | exact LeS.le | exact LeS.add _ | (simp; done) | (simp; omega)) _) | (with_reducible refine Ext.setCell ?_ (by first | exact LeS.le | exact LeS.add _ | (simp; done) | (simp; omega)) _)))) (by omega) (by omega) (by omega)).mono ?_; rintro e w' ⟨vl, l, rfl, _, _, _, ⟨z6, rfl⟩, hr6, ho6⟩
      obtain ⟨pl, cl, hvl, _, _⟩ := (ho6.sl Actn.enc_length).openc
      subst hvl
      have HR6 := Lib.hid hr6; have HO6 := Lib.hid ho6
      have hz4 := z4.grown.size
      have hz5 := z5.grown.size
      clear hr6 ho6
      go_wp2_with fail
      have r0 : z6.val.cell? ⟨w.heap.size, 0, none⟩ = some (.int .i64 0) := by go_simp
      have r1 : z6.val.cell? ⟨w.heap.size, 1, none⟩ = some (.int .i64 0) := by go_simp
      have r2 : z6.val.cell? ⟨w.heap.size, 2, none⟩ = some (.int .i64 0) := by go_simp
      have r3 : z6.val.cell? ⟨w.heap.size, 3, none⟩ = some (.slice none 0 0) := by go_simp
      have r4 : z6.val.cell? ⟨w.heap.size, 4, none⟩ = some (.int .i64 0) := by go_simp
      have r5 : z6.val.cell? ⟨w.heap.size, 5, none⟩ = some (.int .i64 0) := by go_simp
      refine bodyPost_ret (v := .agg #[.int .i64 xb.bf, .int .i64 xb.ht, .int .i64 xb.vw, .slice pl l.length cl, .int .i64 xb.rt, .int .i64 xb.ef]) (by simp [results, Try.results79, go_sem, r0, r1, r2, r3, r4, r5]) rfl ?_
      refine ⟨⟨xb.bf, xb.ht, xb.vw, xb.rt, xb.ef⟩, _, l, rfl, ExtR.of ?_, ?_, ?_⟩
      · (repeat (with_reducible refine GB.setNew ?_ (by omega) _ _))
        exact  GB.upR (GB.upR (GB.upR HG3.out z4) z5) z6
      · refine Rd.mono (a := lim + 6002 + 1 + 1 + 200) ?_ (by omega)
        (repeat (with_reducible refine Rd.set ?_ _ _ (by omega) (by omega)))
        exact HR6.out
      · refine Own.lo (lo := z5.val.heap.size) ?_ (by omega)
        (repeat (with_reducible refine Own.setOld ?_ _ _ (by dsimp only; omega)))
        exact HO6.out
    · go_wp2_with fail
      have r0 : z5.val.cell? ⟨w.heap.size, 0, none⟩ = some (.int .i64 0) := by go_simp
      have r1 : z5.val.cell? ⟨w.heap.size, 1, none⟩ = some (.int .i64 0) := by go_simp
      have r2 : z5.val.cell? ⟨w.heap.size, 2, none⟩ = some (.int .i64 0) := by go_simp
      have r3 : z5.val.cell? ⟨w.heap.size, 3, none⟩ = some (.slice none 0 0) := by go_simp
      have r4 : z5.val.cell? ⟨w.heap.size, 4, none⟩ = some (.int .i64 0) := by go_simp
      have r5 : z5.val.cell? ⟨w.heap.size, 5, none⟩ = some (.int .i64 0) := by go_simp
      refine bodyPost_ret (v := .agg #[.int .i64 xb.bf, .int .i64 xb.ht, .int .i64 xb.vw, .slice p8 xl.length c8, .int .i64 xb.rt, .int .i64 (-1)]) (by simp [results, Try.results79, go_sem, r0, r1, r2, r3, r4, r5]) rfl ?_
      refine ⟨⟨xb.bf, xb.ht, xb.vw, xb.rt, ((-1))⟩, _, xl, rfl, ExtR.of ?_, ?_, ?_⟩
      · (repeat (with_reducible refine GB.setNew ?_ (by omega) _ _))
        exact  GB.upR (GB.upR HG3.out z4) z5
      · refine Rd.mono (a := lim + 6002 + 1 + 1) ?_ (by omega)
        (repeat (with_reducible refine Rd.set ?_ _ _ (by omega) (by omega)))
        exact HR5.out
      · refine Own.lo (lo := zA.val.heap.size) ?_ (by omega)
        (repeat (with_reducible refine Own.setOld ?_ _ _ (by dsimp only; omega)))
        exact HO5.out
end Go.Proofs.Ytphkimbhjfjjkaa
namespace Go.Proofs.Ytphkimbhjfjjkaa
open Go Go.RowKit Go.Proofs

theorem sumStep_inj {s s' x : Int} (h0 : 0 ≤ s) (h1 : s < 1000003) (k0 : 0 ≤ s') (k1 : s' < 1000003) (h : sumStep s x = sumStep s' x) : s = s' := by
  unfold sumStep at h; omega
theorem sumStep_inj' {s x x' : Int} (h0 : 0 ≤ x) (h1 : x < 1000003) (k0 : 0 ≤ x') (k1 : x' < 1000003) (h : sumStep s x = sumStep s x') : x = x' := by
  unfold sumStep at h; omega
theorem sumL_inj : ∀ (l : List Int) {s s' : Int}, 0 ≤ s → s < 1000003 → 0 ≤ s' → s' < 1000003 → sumL s l = sumL s' l → s = s'
  | [], _, _, _, _, _, _, h => h
  | x :: l, s, s', h0, h1, k0, k1, h => by
    have a := sumStep_in (s := s) (n := x)
    have b := sumStep_in (s := s') (n := x)
    exact sumStep_inj h0 h1 k0 k1 (sumL_inj l a.1 a.2 b.1 b.2 h)
theorem sumL_range : ∀ (l : List Int) {s : Int}, 0 ≤ s → s < 1000003 → 0 ≤ sumL s l ∧ sumL s l < 1000003
  | [], _, h0, h1 => ⟨h0, h1⟩
  | x :: l, s, _, _ => by
    have a := sumStep_in (s := s) (n := x)
    exact sumL_range l a.1 a.2
theorem bsum_range {b : Blk} {l : List Actn} (h : b.okL l = true) : 0 ≤ bsum b l ∧ bsum b l < 1000003 := by
  rw [bsum_yes h]; exact sumL_range _ (by omega) (by omega)
theorem Blk.okL_in2 {b : Blk} {l : List Actn} (h : b.okL l = true) : (0 ≤ b.rt ∧ b.rt ≤ 1000002) ∧ (0 ≤ b.ht ∧ b.ht ≤ 100) ∧ (0 ≤ b.vw ∧ b.vw ≤ 1000) := by
  simp only [Blk.okL, Bool.and_eq_true, inR_iff] at h
  exact ⟨h.2.1, h.2.2.2.1, h.2.2.2.2.1⟩
theorem sumL_cons (s x : Int) (l : List Int) : sumL s (x :: l) = sumL (sumStep s x) l := rfl
theorem sumL_app (s : Int) (l m : List Int) : sumL s (l ++ m) = sumL (sumL s l) m := by unfold sumL; rw [List.foldl_append]
theorem Blk.nums_eq (b : Blk) (l : List Actn) : b.nums l = b.bf :: b.ht :: b.vw :: ((l.length : Int) :: aNums l ++ [b.rt, b.ef]) := rfl
theorem bsum_vw {b : Blk} {l : List Actn} (h : b.okL l = true) {v : Int} (hv : v ≠ b.vw) : bsum ⟨b.bf, b.ht, v, b.rt, b.ef⟩ l ≠ bsum b l := by
  intro e
  rcases h2 : Blk.okL ⟨b.bf, b.ht, v, b.rt, b.ef⟩ l with _ | _
  · have := bsum_range h
    rw [bsum_no h2] at e; omega
  · rw [bsum_yes h, bsum_yes h2, Blk.nums_eq, Blk.nums_eq] at e
    simp only [sumL_cons] at e
    have i1 := Blk.okL_in2 h
    have i2 := Blk.okL_in2 h2
    simp only at i2
    have := sumL_inj _ sumStep_in.1 sumStep_in.2 sumStep_in.1 sumStep_in.2 e
    have := sumStep_inj' (by omega) (by omega) (by omega) (by omega) this
    exact hv this
theorem bsum_ht {b : Blk} {l : List Actn} (h : b.okL l = true) {v : Int} (hv : v ≠ b.ht) : bsum ⟨b.bf, v, b.vw, b.rt, b.ef⟩ l ≠ bsum b l := by
  intro e
  rcases h2 : Blk.okL ⟨b.bf, v, b.vw, b.rt, b.ef⟩ l with _ | _
  · have := bsum_range h
    rw [bsum_no h2] at e; omega
  · rw [bsum_yes h, bsum_yes h2, Blk.nums_eq, Blk.nums_eq] at e
    simp only [sumL_cons] at e
    have i1 := Blk.okL_in2 h
    have i2 := Blk.okL_in2 h2
    simp only at i2
    have := sumL_inj _ sumStep_in.1 sumStep_in.2 sumStep_in.1 sumStep_in.2 e
    have := sumStep_inj sumStep_in.1 sumStep_in.2 sumStep_in.1 sumStep_in.2 this
    have := sumStep_inj' (by omega) (by omega) (by omega) (by omega) this
    exact hv this
theorem bsum_end {b : Blk} {l : List Actn} (h : b.okL l = true) : bsum b l = sumStep (sumStep (sumL 22 (b.head l.length ++ aNums l)) b.rt) b.ef := by
  rw [bsum_yes h]; unfold Blk.nums; rw [sumL_app]; rfl
theorem bsum_rt {b : Blk} {l : List Actn} (h : b.okL l = true) {v : Int} (hv : v ≠ b.rt) : bsum ⟨b.bf, b.ht, b.vw, v, b.ef⟩ l ≠ bsum b l := by
  intro e
  rcases h2 : Blk.okL ⟨b.bf, b.ht, b.vw, v, b.ef⟩ l with _ | _
  · have := bsum_range h
    rw [bsum_no h2] at e; omega
  · rw [bsum_end h, bsum_end h2] at e
    have i1 := Blk.okL_in2 h
    have i2 := Blk.okL_in2 h2
    simp only at i2
    have e' : sumStep (sumStep (sumL 22 (b.head l.length ++ aNums l)) v) b.ef = sumStep (sumStep (sumL 22 (b.head l.length ++ aNums l)) b.rt) b.ef := e
    have := sumStep_inj sumStep_in.1 sumStep_in.2 sumStep_in.1 sumStep_in.2 e'
    have := sumStep_inj' (by omega) (by omega) (by omega) (by omega) this
    exact hv this
theorem xor1_ne {x : Int} (h0 : 0 ≤ x) (h1 : x ≤ 1000002) : bits .xor .i64 x 1 ≠ x := by
  intro e
  have h := i64_xor_nat x.toNat 1 (by omega) (by omega)
  rw [Int.toNat_of_nonneg h0] at h
  have h2 : ((x.toNat ^^^ 1 : Nat) : Int) = x := by rw [← h]; exact e
  have h3 : x.toNat ^^^ 1 = x.toNat := by omega
  have h4 : x.toNat ^^^ (x.toNat ^^^ 1) = 0 := by rw [h3]; exact Nat.xor_self _
  rw [← Nat.xor_assoc, Nat.xor_self, Nat.zero_xor] at h4
  cases h4
end Go.Proofs.Ytphkimbhjfjjkaa
