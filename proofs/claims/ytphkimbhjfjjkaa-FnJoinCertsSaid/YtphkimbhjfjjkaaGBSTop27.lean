/- Walks: drawn certificates. -/
import Derived.Test.YtphkimbhjfjjkaaGBSTop09
import Derived.Test.YtphkimbhjfjjkaaGBSTop17
import Derived.Test.YtphkimbhjfjjkaaGBSTop16
import Derived.Test.YtphkimbhjfjjkaaGBSTop05
import Derived.Test.YtphkimbhjfjjkaaGBSTop26
set_option linter.unusedSimpArgs false
set_option linter.unusedVariables false
namespace Go.Proofs.Ytphkimbhjfjjkaa
open Go Go.RowKit Go.Proofs

set_option maxRecDepth 100000 in
set_option maxHeartbeats 8000000 in
theorem cert_any (w0 w : World) (rb lo : Nat) (lim n : Int) (t : Tree) (u0 u1 u2 : Value) (bs : List TB) (h : Rd w0 w rb lim) (hl : lim ≤ 100000) (hn0 : 0 ≤ n) (hn1 : n ≤ 1000000) (ho : OTA 75 27 71 3 lo w u0 u1 u2 t.base bs t.pr) (hlo : rb < lo) (hc : bs.map TB.core = t.bs) (hk : t.ok = true) :
    Calls Try.prog 70 #[.pointer (some ⟨rb, 0, none⟩), .agg #[u0, u1, u2], .int .i64 n] w fun e w' => ∃ c : Crt, e = .returned (.agg #[.int .i64 c.s, .int .i64 c.v, .int .i64 c.g]) ∧ (∃ z : ExtR rb w, w' = z.val) ∧ Rd w0 w' rb (lim + 20) := by
  have H := Lib.hid h
  have hLb : LtS rb w := ⟨h.lt⟩
  have hlt := h.lt
  have hold := h.old
  have hLe : w0.heap.size ≤ w.heap.size := h.ext.size
  obtain ⟨-, hn1', hn14⟩ := Tree.lens hk
  obtain ⟨b, off, c1, rfl, hbL, hbl, hblk⟩ := ho.blks hc hn1'
  obtain ⟨p0, c0, rfl, _, _⟩ := (ho.obase.sl Ent.enc_length).openc
  obtain ⟨p2, c2, rfl, _, _⟩ := (ho.opr.sl encI_length).openc
  have hNb : NeS b rb := ⟨by omega⟩
  have hLo := hlo
  have hNw1 : NeS (w.heap.size + 1) rb := ⟨by omega⟩
  have hNw2 : NeS (w.heap.size + 1 + 1) rb := ⟨by omega⟩
  have hNw3 : NeS (w.heap.size + 1 + 1 + 1) rb := ⟨by omega⟩
  clear h ho hc hk
  go_enter Try.func70, Try.ntmps70
  go_upto_region 1 with fail
  go_cut [7] (fun s7 wr => ∃ (Bx : Nat) (xb : Blk) (xl : List Actn) (pv : Option Addr) (cv : Nat), s7 = .pointer (some ⟨Bx, 0, none⟩) ∧ LtS Bx wr ∧ w.heap.size + 1 < Bx ∧ (∃ z : ExtR rb ((w.alloc (.cells #[.slice p0 t.base.length c0, .slice (some ⟨b, off, none⟩) t.bs.length c1, .slice p2 t.pr.length c2] 42)).alloc (.cells #[.int .i64 0, .int .i64 0, .int .i64 0] 36)), wr = z.val) ∧ Rd w0 wr rb (lim + 1) ∧ Own Actn.enc 71 4 lo wr (.slice pv xl.length cv) xl ∧ wr.cell? ⟨Bx, 0, none⟩ = some (.int .i64 xb.bf) ∧ wr.cell? ⟨Bx, 1, none⟩ = some (.int .i64 xb.ht) ∧ wr.cell? ⟨Bx, 2, none⟩ = some (.int .i64 xb.vw) ∧ wr.cell? ⟨Bx, 3, none⟩ = some (.slice pv xl.length cv) ∧ wr.cell? ⟨Bx, 4, none⟩ = some (.int .i64 xb.rt) ∧ wr.cell? ⟨Bx, 5, none⟩ = some (.int .i64 xb.ef))
  case first =>
    (go_region_held3 (fun w' => (∀ n i, ∀ [LtS n ((w.alloc (.cells #[.slice p0 t.base.length c0, .slice (some ⟨b, off, none⟩) t.bs.length c1, .slice p2 t.pr.length c2] 42)).alloc (.cells #[.int .i64 0, .int .i64 0, .int .i64 0] 36))] [NeS n rb], w'.cell? ⟨n, i, none⟩ = World.cell? ((w.alloc (.cells #[.slice p0 t.base.length c0, .slice (some ⟨b, off, none⟩) t.bs.length c1, .slice p2 t.pr.length c2] 42)).alloc (.cells #[.int .i64 0, .int .i64 0, .int .i64 0] 36)) ⟨n, i, none⟩) ∧ World.grownBy ((w.alloc (.cells #[.slice p0 t.base.length c0, .slice (some ⟨b, off, none⟩) t.bs.length c1, .slice p2 t.pr.length c2] 42)).alloc (.cells #[.int .i64 0, .int .i64 0, .int .i64 0] 36)) w' (some rb)) ((refine S_of_gb ?_; (repeat (first | (with_reducible exact grownBy_refl _ _) | (with_reducible refine GB.setNew ?_ (by first | exact LeS.le | exact LeS.add _ | (simp; done) | (simp; omega)) _ _) | (with_reducible refine GB.alloc ?_ _) | (with_reducible refine GB.drew ?_) | (with_reducible refine GB.upR ?_ _) | (with_reducible refine GB.up ?_ _))); done)) (first | (go_at_call 87; (with_reducible refine (pick_any w0 _ rb _ (t.bs.length : Int) (H.out.up (by repeat (first | (with_reducible exact Ext.refl _) | (with_reducible refine Ext.up ?_ _) | (with_reducible refine Ext.alloc ?_ _) | (with_reducible refine Ext.drew ?_) | (with_reducible refine Ext.setRow ?_ (by first | exact LeS.le | exact LeS.add _ | (simp; done) | (simp; omega)) _) | (with_reducible refine Ext.setCell ?_ (by first | exact LeS.le | exact LeS.add _ | (simp; done) | (simp; omega)) _)))) (by omega) (by omega) (by omega)).mono ?_); rintro e w' ⟨q, rfl, q0, q1, _, ⟨z1, rfl⟩, hr1⟩; have HR1 := Lib.hid hr1; have hq := q1 (by omega); clear hr1 q1; obtain ⟨j, hj⟩ : ∃ j : Nat, q = (j : Int) := ⟨q.toNat, by omega⟩; subst hj; obtain ⟨xb, xl, pv, cv, -, e0, e1, e2, e3, e4, e5, hxo⟩ := hblk j (by omega); have HX := Lib.hid hxo; have hNX := fun X (h : w.heap.size ≤ X) => Own.ne_out hxo X (.inr h); clear hxo) | fail))
    all_goals go_wp2_with fail
    all_goals go_meet
    all_goals
      have h1 := z1.grown.size
      simp at h1
      refine ⟨_, xb, xl, pv, cv, rfl, by infer_instance, by (try simp) <;> omega, ExtR.of (by repeat (first | (with_reducible exact grownBy_refl _ _) | (with_reducible refine GB.setNew ?_ (by first | exact LeS.le | exact LeS.add _ | (simp; done) | (simp; omega)) _ _) | (with_reducible refine GB.alloc ?_ _) | (with_reducible refine GB.drew ?_) | (with_reducible refine GB.upR ?_ _) | (with_reducible refine GB.up ?_ _))), ?_, ?_, by go_simp, by go_simp, by go_simp, by go_simp, by go_simp, by go_simp⟩
      · refine Rd.mono (a := lim + 1) ?_ (by omega)
        (repeat (with_reducible refine Rd.set ?_ _ _ (by omega) (by omega)))
        exact HR1.out.up (by repeat (first | (with_reducible exact Ext.refl _) | (with_reducible refine Ext.up ?_ _) | (with_reducible refine Ext.alloc ?_ _) | (with_reducible refine Ext.drew ?_) | (with_reducible refine Ext.setRow ?_ (by first | exact LeS.le | exact LeS.add _ | (simp; done) | (simp; omega)) _) | (with_reducible refine Ext.setCell ?_ (by first | exact LeS.le | exact LeS.add _ | (simp; done) | (simp; omega)) _)))
      · (repeat (with_reducible refine Own.setApart ?_ _ _ (.inr (hNX _ (by (try simp) <;> omega)))))
        first | exact (HX.out.up (by repeat (first | (with_reducible exact Ext.refl _) | (with_reducible refine Ext.up ?_ _) | (with_reducible refine Ext.alloc ?_ _) | (with_reducible refine Ext.drew ?_) | (with_reducible refine Ext.setRow ?_ (by first | exact LeS.le | exact LeS.add _ | (simp; done) | (simp; omega)) _) | (with_reducible refine Ext.setCell ?_ (by first | exact LeS.le | exact LeS.add _ | (simp; done) | (simp; omega)) _)))).upR hLo z1 | exact ((HX.out.up (by repeat (first | (with_reducible exact Ext.refl _) | (with_reducible refine Ext.up ?_ _) | (with_reducible refine Ext.alloc ?_ _) | (with_reducible refine Ext.drew ?_) | (with_reducible refine Ext.setRow ?_ (by first | exact LeS.le | exact LeS.add _ | (simp; done) | (simp; omega)) _) | (with_reducible refine Ext.setCell ?_ (by first | exact LeS.le | exact LeS.add _ | (simp; done) | (simp; omega)) _)))).upR hLo z1).alloc
  case rest =>
    obtain ⟨Bx, xb, xl, pv, cv, rfl, hLBx, hBw, ⟨zA, rfl⟩, hr1, hxo, x0, x1, x2, x3, x4, x5⟩ := hcut
    have HR1 := Lib.hid hr1; have HX := Lib.hid hxo
    have hLA : LtS rb zA.val := ⟨hr1.lt⟩
    have hNB : NeS Bx rb := ⟨by omega⟩
    have hBlt := hLBx.lt
    clear hr1 hxo hblk
    have kb := fun w h => sBlockSum_any xb xl (.slice pv xl.length cv) w h
    generalize bsum xb xl = n1 at kb
    go_upto_region 2 with fail
    go_cut [8] (fun s8 wr => ∃ (Cx : Nat) (c : Crt), s8 = .pointer (some ⟨Cx, 0, none⟩) ∧ LtS Cx wr ∧ w.heap.size + 1 < Cx ∧ (∃ z : ExtR rb zA.val, wr = z.val) ∧ Rd w0 wr rb (lim + 3) ∧ wr.cell? ⟨Cx, 0, none⟩ = some (.int .i64 c.s) ∧ wr.cell? ⟨Cx, 1, none⟩ = some (.int .i64 c.v) ∧ wr.cell? ⟨Cx, 2, none⟩ = some (.int .i64 c.g) ∧ wr.frozen? ⟨Cx, 0, none⟩ = false ∧ wr.frozen? ⟨Cx, 1, none⟩ = false ∧ wr.frozen? ⟨Cx, 2, none⟩ = false)
    case first =>
      refine wp_region_held_drew (S := (fun w' => (∀ n i, ∀ [LtS n zA.val] [NeS n rb], w'.cell? ⟨n, i, none⟩ = World.cell? zA.val ⟨n, i, none⟩) ∧ World.grownBy zA.val w' (some rb))) (by kernel_rfl) ?_ (fun hHeld => ?_)
      · (try dsimp only)
        refine S_of_gb ?_
        repeat (first | (with_reducible exact grownBy_refl _ _) | (with_reducible refine GB.setNew ?_ (by first | exact LeS.le | exact LeS.add _ | (simp; done) | (simp; omega)) _ _) | (with_reducible refine GB.alloc ?_ _) | (with_reducible refine GB.drew ?_) | (with_reducible refine GB.upR ?_ _) | (with_reducible refine GB.up ?_ _))
      refine wpAnyH_take (i := 0) (v := ?_) (opAt rfl) (by kernel_rfl) (by kernel_rfl) (by kernel_rfl) (fun _ _ _ h => h) (Or.inl ⟨by rfl, ?_⟩) (by assumption) ?_
      rotate_left
      · (intro w hSw; (try dsimp only at hSw); go_simp) <;> with_reducible rfl
      try simp only [Act.put, List.setIfInBounds_toArray, List.set_cons_zero, List.set_cons_succ]
      refine wpAnyH_take (i := 3) (v := ?_) (opAt rfl) (by kernel_rfl) (by kernel_rfl) (by kernel_rfl) (fun _ _ _ h => h) (Or.inl ⟨by rfl, ?_⟩) (by assumption) ?_
      rotate_left
      · (intro w hSw; (try dsimp only at hSw); go_simp) <;> with_reducible rfl
      try simp only [Act.put, List.setIfInBounds_toArray, List.set_cons_zero, List.set_cons_succ]
      refine wpAnyH_take (i := 4) (v := ?_) (opAt rfl) (by kernel_rfl) (by kernel_rfl) (by kernel_rfl) (fun _ _ _ h => h) (Or.inl ⟨by rfl, ?_⟩) (by assumption) ?_
      rotate_left
      · (intro w hSw; (try dsimp only at hSw); go_simp) <;> with_reducible rfl
      try simp only [Act.put, List.setIfInBounds_toArray, List.set_cons_zero, List.set_cons_succ]
      refine wpAnyH_take (i := 5) (v := ?_) (opAt rfl) (by kernel_rfl) (by kernel_rfl) (by kernel_rfl) (fun _ _ _ h => h) (Or.inl ⟨by rfl, ?_⟩) (by assumption) ?_
      rotate_left
      · (intro w hSw; (try dsimp only at hSw); go_simp) <;> with_reducible rfl
      try simp only [Act.put, List.setIfInBounds_toArray, List.set_cons_zero, List.set_cons_succ]
      refine wpAnyH_take (i := 6) (v := ?_) (opAt rfl) (by kernel_rfl) (by kernel_rfl) (by kernel_rfl) (fun _ _ _ h => h) (Or.inl ⟨by rfl, ?_⟩) (by assumption) ?_
      rotate_left
      · (intro w hSw; (try dsimp only at hSw); go_simp) <;> with_reducible rfl
      try simp only [Act.put, List.setIfInBounds_toArray, List.set_cons_zero, List.set_cons_succ]
      refine wpAnyH_take (i := 7) (v := ?_) (opAt rfl) (by kernel_rfl) (by kernel_rfl) (by kernel_rfl) (fun _ _ _ h => h) (Or.inl ⟨by rfl, ?_⟩) (by assumption) ?_
      rotate_left
      · (intro w hSw; (try dsimp only at hSw); go_simp) <;> with_reducible rfl
      try simp only [Act.put, List.setIfInBounds_toArray, List.set_cons_zero, List.set_cons_succ]
      refine wpAnyH_take (i := 10) (v := ?_) (opAt rfl) (by kernel_rfl) (by kernel_rfl) (by kernel_rfl) (fun _ _ _ h => h) (Or.inl ⟨by rfl, ?_⟩) (by assumption) ?_
      rotate_left
      · (intro w hSw; (try dsimp only at hSw); go_simp) <;> with_reducible rfl
      try simp only [Act.put, List.setIfInBounds_toArray, List.set_cons_zero, List.set_cons_succ]
      refine wpAnyH_ready (rs := [1, 15]) (by kernel_rfl) (by simp) ?_
      refine AllReadyH.cons (opAt rfl) (fun K hK => ?_) ?_
      · go_simp
        (go_at_call 38; refine (kb _ ((HX.out.sl Actn.enc_length).up (by repeat (first | (with_reducible exact Ext.refl _) | (with_reducible refine Ext.up ?_ _) | (with_reducible refine Ext.alloc ?_ _) | (with_reducible refine Ext.drew ?_) | (with_reducible refine Ext.setRow ?_ (by first | exact LeS.le | exact LeS.add _ | (simp; done) | (simp; omega)) _) | (with_reducible refine Ext.setCell ?_ (by first | exact LeS.le | exact LeS.add _ | (simp; done) | (simp; omega)) _))))).mono ?_; rintro e w' ⟨rfl, z2, rfl⟩)
        try go_wp2_with fail
        refine hK.out _ _ ?_ (fun hHeld1 => ?_)
        · (try dsimp only)
          refine S_of_gb ?_
          repeat (first | (with_reducible exact grownBy_refl _ _) | (with_reducible refine GB.setNew ?_ (by first | exact LeS.le | exact LeS.add _ | (simp; done) | (simp; omega)) _ _) | (with_reducible refine GB.alloc ?_ _) | (with_reducible refine GB.drew ?_) | (with_reducible refine GB.upR ?_ _) | (with_reducible refine GB.up ?_ _))
        clear hK K hHeld
        have hHeld := hHeld1; clear hHeld1
        try simp only [Act.put, List.setIfInBounds_toArray, List.set_cons_zero, List.set_cons_succ]
        refine wpAnyH_take (i := 2) (v := ?_) (opAt rfl) (by kernel_rfl) (by kernel_rfl) (by kernel_rfl) (fun _ _ _ h => h) (Or.inl ⟨by rfl, ?_⟩) (by assumption) ?_
        rotate_left
        · (intro w hSw; (try dsimp only at hSw); go_simp) <;> with_reducible rfl
        try simp only [Act.put, List.setIfInBounds_toArray, List.set_cons_zero, List.set_cons_succ]
        refine wpAnyH_ready (rs := [8, 15]) (by kernel_rfl) (by simp) ?_
        refine AllReadyH.cons (opAt rfl) (fun K hK => ?_) ?_
        · go_simp
          go_at_call 87
          (with_reducible refine (pick_any w0 _ rb _ 16 (HR1.out.up (by repeat (first | (with_reducible exact Ext.refl _) | (with_reducible refine Ext.up ?_ _) | (with_reducible refine Ext.alloc ?_ _) | (with_reducible refine Ext.drew ?_) | (with_reducible refine Ext.setRow ?_ (by first | exact LeS.le | exact LeS.add _ | (simp; done) | (simp; omega)) _) | (with_reducible refine Ext.setCell ?_ (by first | exact LeS.le | exact LeS.add _ | (simp; done) | (simp; omega)) _)))) (by omega) (by omega) (by omega)).mono ?_)
          rintro e w' ⟨k16, rfl, _, _, _, ⟨z3, rfl⟩, hr3⟩
          have HR3 := Lib.hid hr3; clear hr3
          try go_wp2_with fail
          refine hK.out _ _ ?_ (fun hHeld1 => ?_)
          · (try dsimp only)
            refine S_of_gb ?_
            repeat (first | (with_reducible exact grownBy_refl _ _) | (with_reducible refine GB.setNew ?_ (by first | exact LeS.le | exact LeS.add _ | (simp; done) | (simp; omega)) _ _) | (with_reducible refine GB.alloc ?_ _) | (with_reducible refine GB.drew ?_) | (with_reducible refine GB.upR ?_ _) | (with_reducible refine GB.up ?_ _))
          clear hK K hHeld
          have hHeld := hHeld1; clear hHeld1
          try simp only [Act.put, List.setIfInBounds_toArray, List.set_cons_zero, List.set_cons_succ]
          refine wpAnyH_ready (rs := [9, 11, 15]) (by kernel_rfl) (by simp) ?_
          refine AllReadyH.cons (opAt rfl) (fun K hK => ?_) ?_
          · go_simp
            refine hK.out _ _ ?_ (fun hHeld1 => ?_)
            · (try dsimp only)
              refine S_of_gb ?_
              repeat (first | (with_reducible exact grownBy_refl _ _) | (with_reducible refine GB.setNew ?_ (by first | exact LeS.le | exact LeS.add _ | (simp; done) | (simp; omega)) _ _) | (with_reducible refine GB.alloc ?_ _) | (with_reducible refine GB.drew ?_) | (with_reducible refine GB.upR ?_ _) | (with_reducible refine GB.up ?_ _))
            clear hK K hHeld
            have hHeld := hHeld1; clear hHeld1
            try simp only [Act.put, List.setIfInBounds_toArray, List.set_cons_zero, List.set_cons_succ]
            refine wpAnyH_ready (rs := [11, 15]) (by kernel_rfl) (by simp) ?_
            refine AllReadyH.cons (opAt rfl) (fun K hK => ?_) ?_
            · go_simp
              go_at_call 87
              (with_reducible refine (pick_any w0 _ rb _ 5 (HR3.out.up (by repeat (first | (with_reducible exact Ext.refl _) | (with_reducible refine Ext.up ?_ _) | (with_reducible refine Ext.alloc ?_ _) | (with_reducible refine Ext.drew ?_) | (with_reducible refine Ext.setRow ?_ (by first | exact LeS.le | exact LeS.add _ | (simp; done) | (simp; omega)) _) | (with_reducible refine Ext.setCell ?_ (by first | exact LeS.le | exact LeS.add _ | (simp; done) | (simp; omega)) _)))) (by omega) (by omega) (by omega)).mono ?_)
              rintro e w' ⟨q, rfl, q0, q1, _, ⟨z4, rfl⟩, hr4⟩
              have HR4 := Lib.hid hr4; have hq := q1 (by omega); clear hr4 q1
              obtain ⟨j, hj⟩ : ∃ j : Nat, q = (j : Int) := ⟨q.toNat, by omega⟩
              subst hj
              have hj5 : j < 5 := (by omega)
              obtain ⟨g, hg⟩ : ∃ g : Int, ∀ h, ([.int .i64 7, .int .i64 11, .int .i64 14, .int .i64 15, .int .i64 k16] : List Value)[j]'h = .int .i64 g := (by rcases (show j = 0 ∨ j = 1 ∨ j = 2 ∨ j = 3 ∨ j = 4 by omega) with rfl | rfl | rfl | rfl | rfl; exact ⟨7, fun _ => rfl⟩; exact ⟨11, fun _ => rfl⟩; exact ⟨14, fun _ => rfl⟩; exact ⟨15, fun _ => rfl⟩; exact ⟨k16, fun _ => rfl⟩)
              try go_wp2_with fail
              refine hK.out _ _ ?_ (fun hHeld1 => ?_)
              · (try dsimp only)
                refine S_of_gb ?_
                repeat (first | (with_reducible exact grownBy_refl _ _) | (with_reducible refine GB.setNew ?_ (by first | exact LeS.le | exact LeS.add _ | (simp; done) | (simp; omega)) _ _) | (with_reducible refine GB.alloc ?_ _) | (with_reducible refine GB.drew ?_) | (with_reducible refine GB.upR ?_ _) | (with_reducible refine GB.up ?_ _))
              clear hK K hHeld
              have hHeld := hHeld1; clear hHeld1
              try simp only [Act.put, List.setIfInBounds_toArray, List.set_cons_zero, List.set_cons_succ]
              refine wpAnyH_take (i := 12) (v := ?_) (opAt rfl) (by kernel_rfl) (by kernel_rfl) (by kernel_rfl) (fun _ _ _ h => h) (Or.inl ⟨by rfl, ?_⟩) (by assumption) ?_
              rotate_left
              · (intro w hSw; (try dsimp only at hSw); go_simp) <;> with_reducible rfl
              try simp only [Act.put, List.setIfInBounds_toArray, List.set_cons_zero, List.set_cons_succ]
              refine wpAnyH_ready (rs := [13, 15]) (by kernel_rfl) (by simp) ?_
              refine AllReadyH.cons (opAt rfl) (fun K hK => ?_) ?_
              · go_simp
                refine hK.out _ _ ?_ (fun hHeld1 => ?_)
                · (try dsimp only)
                  refine S_of_gb ?_
                  repeat (first | (with_reducible exact grownBy_refl _ _) | (with_reducible refine GB.setNew ?_ (by first | exact LeS.le | exact LeS.add _ | (simp; done) | (simp; omega)) _ _) | (with_reducible refine GB.alloc ?_ _) | (with_reducible refine GB.drew ?_) | (with_reducible refine GB.upR ?_ _) | (with_reducible refine GB.up ?_ _))
                clear hK K hHeld
                have hHeld := hHeld1; clear hHeld1
                try simp only [Act.put, List.setIfInBounds_toArray, List.set_cons_zero, List.set_cons_succ]
                refine wpAnyH_take (i := 14) (v := ?_) (opAt rfl) (by kernel_rfl) (by kernel_rfl) (by kernel_rfl) (fun _ _ _ h => h) (Or.inl ⟨by rfl, ?_⟩) (by assumption) ?_
                rotate_left
                · (intro w hSw; (try dsimp only at hSw); go_simp) <;> with_reducible rfl
                try simp only [Act.put, List.setIfInBounds_toArray, List.set_cons_zero, List.set_cons_succ]
                refine wpAnyH_ready (rs := [15]) (by kernel_rfl) (by simp) ?_
                refine AllReadyH.cons (opAt rfl) (fun K hK => ?_) ?_
                · go_simp
                  refine hK.out _ _ ?_ (fun hHeld1 => ?_)
                  · (try dsimp only)
                    refine S_of_gb ?_
                    repeat (first | (with_reducible exact grownBy_refl _ _) | (with_reducible refine GB.setNew ?_ (by first | exact LeS.le | exact LeS.add _ | (simp; done) | (simp; omega)) _ _) | (with_reducible refine GB.alloc ?_ _) | (with_reducible refine GB.drew ?_) | (with_reducible refine GB.upR ?_ _) | (with_reducible refine GB.up ?_ _))
                  clear hK K hHeld
                  have hHeld := hHeld1; clear hHeld1
                  try simp only [Act.put, List.setIfInBounds_toArray, List.set_cons_zero, List.set_cons_succ]
                  refine wpAnyH_ready (rs := [16]) (by kernel_rfl) (by simp) ?_
                  refine AllReadyH.cons (opAt rfl) (fun K hK => ?_) ?_
                  · go_simp
                    refine hK.out _ _ ?_ (fun hHeld1 => ?_)
                    · (try dsimp only)
                      refine S_of_gb ?_
                      repeat (first | (with_reducible exact grownBy_refl _ _) | (with_reducible refine GB.setNew ?_ (by first | exact LeS.le | exact LeS.add _ | (simp; done) | (simp; omega)) _ _) | (with_reducible refine GB.alloc ?_ _) | (with_reducible refine GB.drew ?_) | (with_reducible refine GB.upR ?_ _) | (with_reducible refine GB.up ?_ _))
                    clear hK K hHeld
                    have hHeld := hHeld1; clear hHeld1
                    try simp only [Act.put, List.setIfInBounds_toArray, List.set_cons_zero, List.set_cons_succ]
                    refine wpAnyH_done (by kernel_rfl) ?_ _
                    go_wp2_with fail
                    go_meet
                    have h2 := z2.ext.size; have h3 := z3.grown.size; have h4 := z4.grown.size
                    simp at h2 h3 h4
                    refine ⟨_, ⟨max 0 n1, max 0 (min 1000 xb.vw), g⟩, rfl, by infer_instance, by (try simp) <;> omega, ExtR.of (by repeat (first | (with_reducible exact grownBy_refl _ _) | (with_reducible refine GB.setNew ?_ (by first | exact LeS.le | exact LeS.add _ | (simp; done) | (simp; omega)) _ _) | (with_reducible refine GB.alloc ?_ _) | (with_reducible refine GB.drew ?_) | (with_reducible refine GB.upR ?_ _) | (with_reducible refine GB.up ?_ _))), ?_, by go_simp, by go_simp, by go_simp, by go_simp, by go_simp, by go_simp⟩
                    refine Rd.mono (a := lim + 1 + 1 + 1) ?_ (by omega)
                    (repeat (with_reducible refine Rd.set ?_ _ _ (by omega) (by omega)))
                    exact HR4.out.up (by repeat (first | (with_reducible exact Ext.refl _) | (with_reducible refine Ext.up ?_ _) | (with_reducible refine Ext.alloc ?_ _) | (with_reducible refine Ext.drew ?_) | (with_reducible refine Ext.setRow ?_ (by first | exact LeS.le | exact LeS.add _ | (simp; done) | (simp; omega)) _) | (with_reducible refine Ext.setCell ?_ (by first | exact LeS.le | exact LeS.add _ | (simp; done) | (simp; omega)) _)))
                  exact AllReadyH.nil
                exact AllReadyH.nil
              refine AllReadyH.cons (opAt rfl) (fun K hK => ?_) ?_
              · go_simp
                refine hK.out _ _ ?_ (fun hHeld1 => ?_)
                · (try dsimp only)
                  refine S_of_gb ?_
                  repeat (first | (with_reducible exact grownBy_refl _ _) | (with_reducible refine GB.setNew ?_ (by first | exact LeS.le | exact LeS.add _ | (simp; done) | (simp; omega)) _ _) | (with_reducible refine GB.alloc ?_ _) | (with_reducible refine GB.drew ?_) | (with_reducible refine GB.upR ?_ _) | (with_reducible refine GB.up ?_ _))
                clear hK K hHeld
                have hHeld := hHeld1; clear hHeld1
                try simp only [Act.put, List.setIfInBounds_toArray, List.set_cons_zero, List.set_cons_succ]
                refine wpAnyH_ready (rs := [13]) (by kernel_rfl) (by simp) ?_
                refine AllReadyH.cons (opAt rfl) (fun K hK => ?_) ?_
                · go_simp
                  refine hK.out _ _ ?_ (fun hHeld1 => ?_)
                  · (try dsimp only)
                    refine S_of_gb ?_
                    repeat (first | (with_reducible exact grownBy_refl _ _) | (with_reducible refine GB.setNew ?_ (by first | exact LeS.le | exact LeS.add _ | (simp; done) | (simp; omega)) _ _) | (with_reducible refine GB.alloc ?_ _) | (with_reducible refine GB.drew ?_) | (with_reducible refine GB.upR ?_ _) | (with_reducible refine GB.up ?_ _))
                  clear hK K hHeld
                  have hHeld := hHeld1; clear hHeld1
                  try simp only [Act.put, List.setIfInBounds_toArray, List.set_cons_zero, List.set_cons_succ]
                  refine wpAnyH_take (i := 14) (v := ?_) (opAt rfl) (by kernel_rfl) (by kernel_rfl) (by kernel_rfl) (fun _ _ _ h => h) (Or.inl ⟨by rfl, ?_⟩) (by assumption) ?_
                  rotate_left
                  · (intro w hSw; (try dsimp only at hSw); go_simp) <;> with_reducible rfl
                  try simp only [Act.put, List.setIfInBounds_toArray, List.set_cons_zero, List.set_cons_succ]
                  refine wpAnyH_ready (rs := [16]) (by kernel_rfl) (by simp) ?_
                  refine AllReadyH.cons (opAt rfl) (fun K hK => ?_) ?_
                  · go_simp
                    refine hK.out _ _ ?_ (fun hHeld1 => ?_)
                    · (try dsimp only)
                      refine S_of_gb ?_
                      repeat (first | (with_reducible exact grownBy_refl _ _) | (with_reducible refine GB.setNew ?_ (by first | exact LeS.le | exact LeS.add _ | (simp; done) | (simp; omega)) _ _) | (with_reducible refine GB.alloc ?_ _) | (with_reducible refine GB.drew ?_) | (with_reducible refine GB.upR ?_ _) | (with_reducible refine GB.up ?_ _))
                    clear hK K hHeld
                    have hHeld := hHeld1; clear hHeld1
                    try simp only [Act.put, List.setIfInBounds_toArray, List.set_cons_zero, List.set_cons_succ]
                    refine wpAnyH_done (by kernel_rfl) ?_ _
                    go_wp2_with fail
                    go_meet
                    have h2 := z2.ext.size; have h3 := z3.grown.size; have h4 := z4.grown.size
                    simp at h2 h3 h4
                    refine ⟨_, ⟨max 0 n1, max 0 (min 1000 xb.vw), g⟩, rfl, by infer_instance, by (try simp) <;> omega, ExtR.of (by repeat (first | (with_reducible exact grownBy_refl _ _) | (with_reducible refine GB.setNew ?_ (by first | exact LeS.le | exact LeS.add _ | (simp; done) | (simp; omega)) _ _) | (with_reducible refine GB.alloc ?_ _) | (with_reducible refine GB.drew ?_) | (with_reducible refine GB.upR ?_ _) | (with_reducible refine GB.up ?_ _))), ?_, by go_simp, by go_simp, by go_simp, by go_simp, by go_simp, by go_simp⟩
                    refine Rd.mono (a := lim + 1 + 1 + 1) ?_ (by omega)
                    (repeat (with_reducible refine Rd.set ?_ _ _ (by omega) (by omega)))
                    exact HR4.out.up (by repeat (first | (with_reducible exact Ext.refl _) | (with_reducible refine Ext.up ?_ _) | (with_reducible refine Ext.alloc ?_ _) | (with_reducible refine Ext.drew ?_) | (with_reducible refine Ext.setRow ?_ (by first | exact LeS.le | exact LeS.add _ | (simp; done) | (simp; omega)) _) | (with_reducible refine Ext.setCell ?_ (by first | exact LeS.le | exact LeS.add _ | (simp; done) | (simp; omega)) _)))
                  exact AllReadyH.nil
                exact AllReadyH.nil
              exact AllReadyH.nil
            refine AllReadyH.cons (opAt rfl) (fun K hK => ?_) ?_
            · go_simp
              refine hK.out _ _ ?_ (fun hHeld1 => ?_)
              · (try dsimp only)
                refine S_of_gb ?_
                repeat (first | (with_reducible exact grownBy_refl _ _) | (with_reducible refine GB.setNew ?_ (by first | exact LeS.le | exact LeS.add _ | (simp; done) | (simp; omega)) _ _) | (with_reducible refine GB.alloc ?_ _) | (with_reducible refine GB.drew ?_) | (with_reducible refine GB.upR ?_ _) | (with_reducible refine GB.up ?_ _))
              clear hK K hHeld
              have hHeld := hHeld1; clear hHeld1
              try simp only [Act.put, List.setIfInBounds_toArray, List.set_cons_zero, List.set_cons_succ]
              refine wpAnyH_ready (rs := [11]) (by kernel_rfl) (by simp) ?_
              refine AllReadyH.cons (opAt rfl) (fun K hK => ?_) ?_
              · go_simp
                go_at_call 87
                (with_reducible refine (pick_any w0 _ rb _ 5 (HR3.out.up (by repeat (first | (with_reducible exact Ext.refl _) | (with_reducible refine Ext.up ?_ _) | (with_reducible refine Ext.alloc ?_ _) | (with_reducible refine Ext.drew ?_) | (with_reducible refine Ext.setRow ?_ (by first | exact LeS.le | exact LeS.add _ | (simp; done) | (simp; omega)) _) | (with_reducible refine Ext.setCell ?_ (by first | exact LeS.le | exact LeS.add _ | (simp; done) | (simp; omega)) _)))) (by omega) (by omega) (by omega)).mono ?_)
                rintro e w' ⟨q, rfl, q0, q1, _, ⟨z4, rfl⟩, hr4⟩
                have HR4 := Lib.hid hr4; have hq := q1 (by omega); clear hr4 q1
                obtain ⟨j, hj⟩ : ∃ j : Nat, q = (j : Int) := ⟨q.toNat, by omega⟩
                subst hj
                have hj5 : j < 5 := (by omega)
                obtain ⟨g, hg⟩ : ∃ g : Int, ∀ h, ([.int .i64 7, .int .i64 11, .int .i64 14, .int .i64 15, .int .i64 k16] : List Value)[j]'h = .int .i64 g := (by rcases (show j = 0 ∨ j = 1 ∨ j = 2 ∨ j = 3 ∨ j = 4 by omega) with rfl | rfl | rfl | rfl | rfl; exact ⟨7, fun _ => rfl⟩; exact ⟨11, fun _ => rfl⟩; exact ⟨14, fun _ => rfl⟩; exact ⟨15, fun _ => rfl⟩; exact ⟨k16, fun _ => rfl⟩)
                try go_wp2_with fail
                refine hK.out _ _ ?_ (fun hHeld1 => ?_)
                · (try dsimp only)
                  refine S_of_gb ?_
                  repeat (first | (with_reducible exact grownBy_refl _ _) | (with_reducible refine GB.setNew ?_ (by first | exact LeS.le | exact LeS.add _ | (simp; done) | (simp; omega)) _ _) | (with_reducible refine GB.alloc ?_ _) | (with_reducible refine GB.drew ?_) | (with_reducible refine GB.upR ?_ _) | (with_reducible refine GB.up ?_ _))
                clear hK K hHeld
                have hHeld := hHeld1; clear hHeld1
                try simp only [Act.put, List.setIfInBounds_toArray, List.set_cons_zero, List.set_cons_succ]
                refine wpAnyH_take (i := 12) (v := ?_) (opAt rfl) (by kernel_rfl) (by kernel_rfl) (by kernel_rfl) (fun _ _ _ h => h) (Or.inl ⟨by rfl, ?_⟩) (by assumption) ?_
                rotate_left
                · (intro w hSw; (try dsimp only at hSw); go_simp) <;> with_reducible rfl
                try simp only [Act.put, List.setIfInBounds_toArray, List.set_cons_zero, List.set_cons_succ]
                refine wpAnyH_ready (rs := [13]) (by kernel_rfl) (by simp) ?_
                refine AllReadyH.cons (opAt rfl) (fun K hK => ?_) ?_
                · go_simp
                  refine hK.out _ _ ?_ (fun hHeld1 => ?_)
                  · (try dsimp only)
                    refine S_of_gb ?_
                    repeat (first | (with_reducible exact grownBy_refl _ _) | (with_reducible refine GB.setNew ?_ (by first | exact LeS.le | exact LeS.add _ | (simp; done) | (simp; omega)) _ _) | (with_reducible refine GB.alloc ?_ _) | (with_reducible refine GB.drew ?_) | (with_reducible refine GB.upR ?_ _) | (with_reducible refine GB.up ?_ _))
                  clear hK K hHeld
                  have hHeld := hHeld1; clear hHeld1
                  try simp only [Act.put, List.setIfInBounds_toArray, List.set_cons_zero, List.set_cons_succ]
                  refine wpAnyH_take (i := 14) (v := ?_) (opAt rfl) (by kernel_rfl) (by kernel_rfl) (by kernel_rfl) (fun _ _ _ h => h) (Or.inl ⟨by rfl, ?_⟩) (by assumption) ?_
                  rotate_left
                  · (intro w hSw; (try dsimp only at hSw); go_simp) <;> with_reducible rfl
                  try simp only [Act.put, List.setIfInBounds_toArray, List.set_cons_zero, List.set_cons_succ]
                  refine wpAnyH_ready (rs := [16]) (by kernel_rfl) (by simp) ?_
                  refine AllReadyH.cons (opAt rfl) (fun K hK => ?_) ?_
                  · go_simp
                    refine hK.out _ _ ?_ (fun hHeld1 => ?_)
                    · (try dsimp only)
                      refine S_of_gb ?_
                      repeat (first | (with_reducible exact grownBy_refl _ _) | (with_reducible refine GB.setNew ?_ (by first | exact LeS.le | exact LeS.add _ | (simp; done) | (simp; omega)) _ _) | (with_reducible refine GB.alloc ?_ _) | (with_reducible refine GB.drew ?_) | (with_reducible refine GB.upR ?_ _) | (with_reducible refine GB.up ?_ _))
                    clear hK K hHeld
                    have hHeld := hHeld1; clear hHeld1
                    try simp only [Act.put, List.setIfInBounds_toArray, List.set_cons_zero, List.set_cons_succ]
                    refine wpAnyH_done (by kernel_rfl) ?_ _
                    go_wp2_with fail
                    go_meet
                    have h2 := z2.ext.size; have h3 := z3.grown.size; have h4 := z4.grown.size
                    simp at h2 h3 h4
                    refine ⟨_, ⟨max 0 n1, max 0 (min 1000 xb.vw), g⟩, rfl, by infer_instance, by (try simp) <;> omega, ExtR.of (by repeat (first | (with_reducible exact grownBy_refl _ _) | (with_reducible refine GB.setNew ?_ (by first | exact LeS.le | exact LeS.add _ | (simp; done) | (simp; omega)) _ _) | (with_reducible refine GB.alloc ?_ _) | (with_reducible refine GB.drew ?_) | (with_reducible refine GB.upR ?_ _) | (with_reducible refine GB.up ?_ _))), ?_, by go_simp, by go_simp, by go_simp, by go_simp, by go_simp, by go_simp⟩
                    refine Rd.mono (a := lim + 1 + 1 + 1) ?_ (by omega)
                    (repeat (with_reducible refine Rd.set ?_ _ _ (by omega) (by omega)))
                    exact HR4.out.up (by repeat (first | (with_reducible exact Ext.refl _) | (with_reducible refine Ext.up ?_ _) | (with_reducible refine Ext.alloc ?_ _) | (with_reducible refine Ext.drew ?_) | (with_reducible refine Ext.setRow ?_ (by first | exact LeS.le | exact LeS.add _ | (simp; done) | (simp; omega)) _) | (with_reducible refine Ext.setCell ?_ (by first | exact LeS.le | exact LeS.add _ | (simp; done) | (simp; omega)) _)))
                  exact AllReadyH.nil
                exact AllReadyH.nil
              exact AllReadyH.nil
            exact AllReadyH.nil
          refine AllReadyH.cons (opAt rfl) (fun K hK => ?_) ?_
          · go_simp
            go_at_call 87
            (with_reducible refine (pick_any w0 _ rb _ 5 (HR3.out.up (by repeat (first | (with_reducible exact Ext.refl _) | (with_reducible refine Ext.up ?_ _) | (with_reducible refine Ext.alloc ?_ _) | (with_reducible refine Ext.drew ?_) | (with_reducible refine Ext.setRow ?_ (by first | exact LeS.le | exact LeS.add _ | (simp; done) | (simp; omega)) _) | (with_reducible refine Ext.setCell ?_ (by first | exact LeS.le | exact LeS.add _ | (simp; done) | (simp; omega)) _)))) (by omega) (by omega) (by omega)).mono ?_)
            rintro e w' ⟨q, rfl, q0, q1, _, ⟨z4, rfl⟩, hr4⟩
            have HR4 := Lib.hid hr4; have hq := q1 (by omega); clear hr4 q1
            obtain ⟨j, hj⟩ : ∃ j : Nat, q = (j : Int) := ⟨q.toNat, by omega⟩
            subst hj
            have hj5 : j < 5 := (by omega)
            obtain ⟨g, hg⟩ : ∃ g : Int, ∀ h, ([.int .i64 7, .int .i64 11, .int .i64 14, .int .i64 15, .int .i64 k16] : List Value)[j]'h = .int .i64 g := (by rcases (show j = 0 ∨ j = 1 ∨ j = 2 ∨ j = 3 ∨ j = 4 by omega) with rfl | rfl | rfl | rfl | rfl; exact ⟨7, fun _ => rfl⟩; exact ⟨11, fun _ => rfl⟩; exact ⟨14, fun _ => rfl⟩; exact ⟨15, fun _ => rfl⟩; exact ⟨k16, fun _ => rfl⟩)
            try go_wp2_with fail
            refine hK.out _ _ ?_ (fun hHeld1 => ?_)
            · (try dsimp only)
              refine S_of_gb ?_
              repeat (first | (with_reducible exact grownBy_refl _ _) | (with_reducible refine GB.setNew ?_ (by first | exact LeS.le | exact LeS.add _ | (simp; done) | (simp; omega)) _ _) | (with_reducible refine GB.alloc ?_ _) | (with_reducible refine GB.drew ?_) | (with_reducible refine GB.upR ?_ _) | (with_reducible refine GB.up ?_ _))
            clear hK K hHeld
            have hHeld := hHeld1; clear hHeld1
            try simp only [Act.put, List.setIfInBounds_toArray, List.set_cons_zero, List.set_cons_succ]
            refine wpAnyH_ready (rs := [9, 15]) (by kernel_rfl) (by simp) ?_
            refine AllReadyH.cons (opAt rfl) (fun K hK => ?_) ?_
            · go_simp
              refine hK.out _ _ ?_ (fun hHeld1 => ?_)
              · (try dsimp only)
                refine S_of_gb ?_
                repeat (first | (with_reducible exact grownBy_refl _ _) | (with_reducible refine GB.setNew ?_ (by first | exact LeS.le | exact LeS.add _ | (simp; done) | (simp; omega)) _ _) | (with_reducible refine GB.alloc ?_ _) | (with_reducible refine GB.drew ?_) | (with_reducible refine GB.upR ?_ _) | (with_reducible refine GB.up ?_ _))
              clear hK K hHeld
              have hHeld := hHeld1; clear hHeld1
              try simp only [Act.put, List.setIfInBounds_toArray, List.set_cons_zero, List.set_cons_succ]
              refine wpAnyH_take (i := 12) (v := ?_) (opAt rfl) (by kernel_rfl) (by kernel_rfl) (by kernel_rfl) (fun _ _ _ h => h) (Or.inl ⟨by rfl, ?_⟩) (by assumption) ?_
              rotate_left
              · (intro w hSw; (try dsimp only at hSw); go_simp) <;> with_reducible rfl
              try simp only [Act.put, List.setIfInBounds_toArray, List.set_cons_zero, List.set_cons_succ]
              refine wpAnyH_ready (rs := [13, 15]) (by kernel_rfl) (by simp) ?_
              refine AllReadyH.cons (opAt rfl) (fun K hK => ?_) ?_
              · go_simp
                refine hK.out _ _ ?_ (fun hHeld1 => ?_)
                · (try dsimp only)
                  refine S_of_gb ?_
                  repeat (first | (with_reducible exact grownBy_refl _ _) | (with_reducible refine GB.setNew ?_ (by first | exact LeS.le | exact LeS.add _ | (simp; done) | (simp; omega)) _ _) | (with_reducible refine GB.alloc ?_ _) | (with_reducible refine GB.drew ?_) | (with_reducible refine GB.upR ?_ _) | (with_reducible refine GB.up ?_ _))
                clear hK K hHeld
                have hHeld := hHeld1; clear hHeld1
                try simp only [Act.put, List.setIfInBounds_toArray, List.set_cons_zero, List.set_cons_succ]
                refine wpAnyH_take (i := 14) (v := ?_) (opAt rfl) (by kernel_rfl) (by kernel_rfl) (by kernel_rfl) (fun _ _ _ h => h) (Or.inl ⟨by rfl, ?_⟩) (by assumption) ?_
                rotate_left
                · (intro w hSw; (try dsimp only at hSw); go_simp) <;> with_reducible rfl
                try simp only [Act.put, List.setIfInBounds_toArray, List.set_cons_zero, List.set_cons_succ]
                refine wpAnyH_ready (rs := [15]) (by kernel_rfl) (by simp) ?_
                refine AllReadyH.cons (opAt rfl) (fun K hK => ?_) ?_
                · go_simp
                  refine hK.out _ _ ?_ (fun hHeld1 => ?_)
                  · (try dsimp only)
                    refine S_of_gb ?_
                    repeat (first | (with_reducible exact grownBy_refl _ _) | (with_reducible refine GB.setNew ?_ (by first | exact LeS.le | exact LeS.add _ | (simp; done) | (simp; omega)) _ _) | (with_reducible refine GB.alloc ?_ _) | (with_reducible refine GB.drew ?_) | (with_reducible refine GB.upR ?_ _) | (with_reducible refine GB.up ?_ _))
                  clear hK K hHeld
                  have hHeld := hHeld1; clear hHeld1
                  try simp only [Act.put, List.setIfInBounds_toArray, List.set_cons_zero, List.set_cons_succ]
                  refine wpAnyH_ready (rs := [16]) (by kernel_rfl) (by simp) ?_
                  refine AllReadyH.cons (opAt rfl) (fun K hK => ?_) ?_
                  · go_simp
                    refine hK.out _ _ ?_ (fun hHeld1 => ?_)
                    · (try dsimp only)
                      refine S_of_gb ?_
                      repeat (first | (with_reducible exact grownBy_refl _ _) | (with_reducible refine GB.setNew ?_ (by first | exact LeS.le | exact LeS.add _ | (simp; done) | (simp; omega)) _ _) | (with_reducible refine GB.alloc ?_ _) | (with_reducible refine GB.drew ?_) | (with_reducible refine GB.upR ?_ _) | (with_reducible refine GB.up ?_ _))
                    clear hK K hHeld
                    have hHeld := hHeld1; clear hHeld1
                    try simp only [Act.put, List.setIfInBounds_toArray, List.set_cons_zero, List.set_cons_succ]
                    refine wpAnyH_done (by kernel_rfl) ?_ _
                    go_wp2_with fail
                    go_meet
                    have h2 := z2.ext.size; have h3 := z3.grown.size; have h4 := z4.grown.size
                    simp at h2 h3 h4
                    refine ⟨_, ⟨max 0 n1, max 0 (min 1000 xb.vw), g⟩, rfl, by infer_instance, by (try simp) <;> omega, ExtR.of (by repeat (first | (with_reducible exact grownBy_refl _ _) | (with_reducible refine GB.setNew ?_ (by first | exact LeS.le | exact LeS.add _ | (simp; done) | (simp; omega)) _ _) | (with_reducible refine GB.alloc ?_ _) | (with_reducible refine GB.drew ?_) | (with_reducible refine GB.upR ?_ _) | (with_reducible refine GB.up ?_ _))), ?_, by go_simp, by go_simp, by go_simp, by go_simp, by go_simp, by go_simp⟩
                    refine Rd.mono (a := lim + 1 + 1 + 1) ?_ (by omega)
                    (repeat (with_reducible refine Rd.set ?_ _ _ (by omega) (by omega)))
                    exact HR4.out.up (by repeat (first | (with_reducible exact Ext.refl _) | (with_reducible refine Ext.up ?_ _) | (with_reducible refine Ext.alloc ?_ _) | (with_reducible refine Ext.drew ?_) | (with_reducible refine Ext.setRow ?_ (by first | exact LeS.le | exact LeS.add _ | (simp; done) | (simp; omega)) _) | (with_reducible refine Ext.setCell ?_ (by first | exact LeS.le | exact LeS.add _ | (simp; done) | (simp; omega)) _)))
                  exact AllReadyH.nil
                exact AllReadyH.nil
              refine AllReadyH.cons (opAt rfl) (fun K hK => ?_) ?_
              · go_simp
                refine hK.out _ _ ?_ (fun hHeld1 => ?_)
                · (try dsimp only)
                  refine S_of_gb ?_
                  repeat (first | (with_reducible exact grownBy_refl _ _) | (with_reducible refine GB.setNew ?_ (by first | exact LeS.le | exact LeS.add _ | (simp; done) | (simp; omega)) _ _) | (with_reducible refine GB.alloc ?_ _) | (with_reducible refine GB.drew ?_) | (with_reducible refine GB.upR ?_ _) | (with_reducible refine GB.up ?_ _))
                clear hK K hHeld
                have hHeld := hHeld1; clear hHeld1
                try simp only [Act.put, List.setIfInBounds_toArray, List.set_cons_zero, List.set_cons_succ]
                refine wpAnyH_ready (rs := [13]) (by kernel_rfl) (by simp) ?_
                refine AllReadyH.cons (opAt rfl) (fun K hK => ?_) ?_
                · go_simp
                  refine hK.out _ _ ?_ (fun hHeld1 => ?_)
                  · (try dsimp only)
                    refine S_of_gb ?_
                    repeat (first | (with_reducible exact grownBy_refl _ _) | (with_reducible refine GB.setNew ?_ (by first | exact LeS.le | exact LeS.add _ | (simp; done) | (simp; omega)) _ _) | (with_reducible refine GB.alloc ?_ _) | (with_reducible refine GB.drew ?_) | (with_reducible refine GB.upR ?_ _) | (with_reducible refine GB.up ?_ _))
                  clear hK K hHeld
                  have hHeld := hHeld1; clear hHeld1
                  try simp only [Act.put, List.setIfInBounds_toArray, List.set_cons_zero, List.set_cons_succ]
                  refine wpAnyH_take (i := 14) (v := ?_) (opAt rfl) (by kernel_rfl) (by kernel_rfl) (by kernel_rfl) (fun _ _ _ h => h) (Or.inl ⟨by rfl, ?_⟩) (by assumption) ?_
                  rotate_left
                  · (intro w hSw; (try dsimp only at hSw); go_simp) <;> with_reducible rfl
                  try simp only [Act.put, List.setIfInBounds_toArray, List.set_cons_zero, List.set_cons_succ]
                  refine wpAnyH_ready (rs := [16]) (by kernel_rfl) (by simp) ?_
                  refine AllReadyH.cons (opAt rfl) (fun K hK => ?_) ?_
                  · go_simp
                    refine hK.out _ _ ?_ (fun hHeld1 => ?_)
                    · (try dsimp only)
                      refine S_of_gb ?_
                      repeat (first | (with_reducible exact grownBy_refl _ _) | (with_reducible refine GB.setNew ?_ (by first | exact LeS.le | exact LeS.add _ | (simp; done) | (simp; omega)) _ _) | (with_reducible refine GB.alloc ?_ _) | (with_reducible refine GB.drew ?_) | (with_reducible refine GB.upR ?_ _) | (with_reducible refine GB.up ?_ _))
                    clear hK K hHeld
                    have hHeld := hHeld1; clear hHeld1
                    try simp only [Act.put, List.setIfInBounds_toArray, List.set_cons_zero, List.set_cons_succ]
                    refine wpAnyH_done (by kernel_rfl) ?_ _
                    go_wp2_with fail
                    go_meet
                    have h2 := z2.ext.size; have h3 := z3.grown.size; have h4 := z4.grown.size
                    simp at h2 h3 h4
                    refine ⟨_, ⟨max 0 n1, max 0 (min 1000 xb.vw), g⟩, rfl, by infer_instance, by (try simp) <;> omega, ExtR.of (by repeat (first | (with_reducible exact grownBy_refl _ _) | (with_reducible refine GB.setNew ?_ (by first | exact LeS.le | exact LeS.add _ | (simp; done) | (simp; omega)) _ _) | (with_reducible refine GB.alloc ?_ _) | (with_reducible refine GB.drew ?_) | (with_reducible refine GB.upR ?_ _) | (with_reducible refine GB.up ?_ _))), ?_, by go_simp, by go_simp, by go_simp, by go_simp, by go_simp, by go_simp⟩
                    refine Rd.mono (a := lim + 1 + 1 + 1) ?_ (by omega)
                    (repeat (with_reducible refine Rd.set ?_ _ _ (by omega) (by omega)))
                    exact HR4.out.up (by repeat (first | (with_reducible exact Ext.refl _) | (with_reducible refine Ext.up ?_ _) | (with_reducible refine Ext.alloc ?_ _) | (with_reducible refine Ext.drew ?_) | (with_reducible refine Ext.setRow ?_ (by first | exact LeS.le | exact LeS.add _ | (simp; done) | (simp; omega)) _) | (with_reducible refine Ext.setCell ?_ (by first | exact LeS.le | exact LeS.add _ | (simp; done) | (simp; omega)) _)))
                  exact AllReadyH.nil
                exact AllReadyH.nil
              exact AllReadyH.nil
            refine AllReadyH.cons (opAt rfl) (fun K hK => ?_) ?_
            · go_simp
              refine hK.out _ _ ?_ (fun hHeld1 => ?_)
              · (try dsimp only)
                refine S_of_gb ?_
                repeat (first | (with_reducible exact grownBy_refl _ _) | (with_reducible refine GB.setNew ?_ (by first | exact LeS.le | exact LeS.add _ | (simp; done) | (simp; omega)) _ _) | (with_reducible refine GB.alloc ?_ _) | (with_reducible refine GB.drew ?_) | (with_reducible refine GB.upR ?_ _) | (with_reducible refine GB.up ?_ _))
              clear hK K hHeld
              have hHeld := hHeld1; clear hHeld1
              try simp only [Act.put, List.setIfInBounds_toArray, List.set_cons_zero, List.set_cons_succ]
              refine wpAnyH_ready (rs := [9]) (by kernel_rfl) (by simp) ?_
              refine AllReadyH.cons (opAt rfl) (fun K hK => ?_) ?_
              · go_simp
                refine hK.out _ _ ?_ (fun hHeld1 => ?_)
                · (try dsimp only)
                  refine S_of_gb ?_
                  repeat (first | (with_reducible exact grownBy_refl _ _) | (with_reducible refine GB.setNew ?_ (by first | exact LeS.le | exact LeS.add _ | (simp; done) | (simp; omega)) _ _) | (with_reducible refine GB.alloc ?_ _) | (with_reducible refine GB.drew ?_) | (with_reducible refine GB.upR ?_ _) | (with_reducible refine GB.up ?_ _))
                clear hK K hHeld
                have hHeld := hHeld1; clear hHeld1
                try simp only [Act.put, List.setIfInBounds_toArray, List.set_cons_zero, List.set_cons_succ]
                refine wpAnyH_take (i := 12) (v := ?_) (opAt rfl) (by kernel_rfl) (by kernel_rfl) (by kernel_rfl) (fun _ _ _ h => h) (Or.inl ⟨by rfl, ?_⟩) (by assumption) ?_
                rotate_left
                · (intro w hSw; (try dsimp only at hSw); go_simp) <;> with_reducible rfl
                try simp only [Act.put, List.setIfInBounds_toArray, List.set_cons_zero, List.set_cons_succ]
                refine wpAnyH_ready (rs := [13]) (by kernel_rfl) (by simp) ?_
                refine AllReadyH.cons (opAt rfl) (fun K hK => ?_) ?_
                · go_simp
                  refine hK.out _ _ ?_ (fun hHeld1 => ?_)
                  · (try dsimp only)
                    refine S_of_gb ?_
                    repeat (first | (with_reducible exact grownBy_refl _ _) | (with_reducible refine GB.setNew ?_ (by first | exact LeS.le | exact LeS.add _ | (simp; done) | (simp; omega)) _ _) | (with_reducible refine GB.alloc ?_ _) | (with_reducible refine GB.drew ?_) | (with_reducible refine GB.upR ?_ _) | (with_reducible refine GB.up ?_ _))
                  clear hK K hHeld
                  have hHeld := hHeld1; clear hHeld1
                  try simp only [Act.put, List.setIfInBounds_toArray, List.set_cons_zero, List.set_cons_succ]
                  refine wpAnyH_take (i := 14) (v := ?_) (opAt rfl) (by kernel_rfl) (by kernel_rfl) (by kernel_rfl) (fun _ _ _ h => h) (Or.inl ⟨by rfl, ?_⟩) (by assumption) ?_
                  rotate_left
                  · (intro w hSw; (try dsimp only at hSw); go_simp) <;> with_reducible rfl
                  try simp only [Act.put, List.setIfInBounds_toArray, List.set_cons_zero, List.set_cons_succ]
                  refine wpAnyH_ready (rs := [16]) (by kernel_rfl) (by simp) ?_
                  refine AllReadyH.cons (opAt rfl) (fun K hK => ?_) ?_
                  · go_simp
                    refine hK.out _ _ ?_ (fun hHeld1 => ?_)
                    · (try dsimp only)
                      refine S_of_gb ?_
                      repeat (first | (with_reducible exact grownBy_refl _ _) | (with_reducible refine GB.setNew ?_ (by first | exact LeS.le | exact LeS.add _ | (simp; done) | (simp; omega)) _ _) | (with_reducible refine GB.alloc ?_ _) | (with_reducible refine GB.drew ?_) | (with_reducible refine GB.upR ?_ _) | (with_reducible refine GB.up ?_ _))
                    clear hK K hHeld
                    have hHeld := hHeld1; clear hHeld1
                    try simp only [Act.put, List.setIfInBounds_toArray, List.set_cons_zero, List.set_cons_succ]
                    refine wpAnyH_done (by kernel_rfl) ?_ _
                    go_wp2_with fail
                    go_meet
                    have h2 := z2.ext.size; have h3 := z3.grown.size; have h4 := z4.grown.size
                    simp at h2 h3 h4
                    refine ⟨_, ⟨max 0 n1, max 0 (min 1000 xb.vw), g⟩, rfl, by infer_instance, by (try simp) <;> omega, ExtR.of (by repeat (first | (with_reducible exact grownBy_refl _ _) | (with_reducible refine GB.setNew ?_ (by first | exact LeS.le | exact LeS.add _ | (simp; done) | (simp; omega)) _ _) | (with_reducible refine GB.alloc ?_ _) | (with_reducible refine GB.drew ?_) | (with_reducible refine GB.upR ?_ _) | (with_reducible refine GB.up ?_ _))), ?_, by go_simp, by go_simp, by go_simp, by go_simp, by go_simp, by go_simp⟩
                    refine Rd.mono (a := lim + 1 + 1 + 1) ?_ (by omega)
                    (repeat (with_reducible refine Rd.set ?_ _ _ (by omega) (by omega)))
                    exact HR4.out.up (by repeat (first | (with_reducible exact Ext.refl _) | (with_reducible refine Ext.up ?_ _) | (with_reducible refine Ext.alloc ?_ _) | (with_reducible refine Ext.drew ?_) | (with_reducible refine Ext.setRow ?_ (by first | exact LeS.le | exact LeS.add _ | (simp; done) | (simp; omega)) _) | (with_reducible refine Ext.setCell ?_ (by first | exact LeS.le | exact LeS.add _ | (simp; done) | (simp; omega)) _)))
                  exact AllReadyH.nil
                exact AllReadyH.nil
              exact AllReadyH.nil
            exact AllReadyH.nil
          refine AllReadyH.cons (opAt rfl) (fun K hK => ?_) ?_
          · go_simp
            refine hK.out _ _ ?_ (fun hHeld1 => ?_)
            · (try dsimp only)
              refine S_of_gb ?_
              repeat (first | (with_reducible exact grownBy_refl _ _) | (with_reducible refine GB.setNew ?_ (by first | exact LeS.le | exact LeS.add _ | (simp; done) | (simp; omega)) _ _) | (with_reducible refine GB.alloc ?_ _) | (with_reducible refine GB.drew ?_) | (with_reducible refine GB.upR ?_ _) | (with_reducible refine GB.up ?_ _))
            clear hK K hHeld
            have hHeld := hHeld1; clear hHeld1
            try simp only [Act.put, List.setIfInBounds_toArray, List.set_cons_zero, List.set_cons_succ]
            refine wpAnyH_ready (rs := [9, 11]) (by kernel_rfl) (by simp) ?_
            refine AllReadyH.cons (opAt rfl) (fun K hK => ?_) ?_
            · go_simp
              refine hK.out _ _ ?_ (fun hHeld1 => ?_)
              · (try dsimp only)
                refine S_of_gb ?_
                repeat (first | (with_reducible exact grownBy_refl _ _) | (with_reducible refine GB.setNew ?_ (by first | exact LeS.le | exact LeS.add _ | (simp; done) | (simp; omega)) _ _) | (with_reducible refine GB.alloc ?_ _) | (with_reducible refine GB.drew ?_) | (with_reducible refine GB.upR ?_ _) | (with_reducible refine GB.up ?_ _))
              clear hK K hHeld
              have hHeld := hHeld1; clear hHeld1
              try simp only [Act.put, List.setIfInBounds_toArray, List.set_cons_zero, List.set_cons_succ]
              refine wpAnyH_ready (rs := [11]) (by kernel_rfl) (by simp) ?_
              refine AllReadyH.cons (opAt rfl) (fun K hK => ?_) ?_
              · go_simp
                go_at_call 87
                (with_reducible refine (pick_any w0 _ rb _ 5 (HR3.out.up (by repeat (first | (with_reducible exact Ext.refl _) | (with_reducible refine Ext.up ?_ _) | (with_reducible refine Ext.alloc ?_ _) | (with_reducible refine Ext.drew ?_) | (with_reducible refine Ext.setRow ?_ (by first | exact LeS.le | exact LeS.add _ | (simp; done) | (simp; omega)) _) | (with_reducible refine Ext.setCell ?_ (by first | exact LeS.le | exact LeS.add _ | (simp; done) | (simp; omega)) _)))) (by omega) (by omega) (by omega)).mono ?_)
                rintro e w' ⟨q, rfl, q0, q1, _, ⟨z4, rfl⟩, hr4⟩
                have HR4 := Lib.hid hr4; have hq := q1 (by omega); clear hr4 q1
                obtain ⟨j, hj⟩ : ∃ j : Nat, q = (j : Int) := ⟨q.toNat, by omega⟩
                subst hj
                have hj5 : j < 5 := (by omega)
                obtain ⟨g, hg⟩ : ∃ g : Int, ∀ h, ([.int .i64 7, .int .i64 11, .int .i64 14, .int .i64 15, .int .i64 k16] : List Value)[j]'h = .int .i64 g := (by rcases (show j = 0 ∨ j = 1 ∨ j = 2 ∨ j = 3 ∨ j = 4 by omega) with rfl | rfl | rfl | rfl | rfl; exact ⟨7, fun _ => rfl⟩; exact ⟨11, fun _ => rfl⟩; exact ⟨14, fun _ => rfl⟩; exact ⟨15, fun _ => rfl⟩; exact ⟨k16, fun _ => rfl⟩)
                try go_wp2_with fail
                refine hK.out _ _ ?_ (fun hHeld1 => ?_)
                · (try dsimp only)
                  refine S_of_gb ?_
                  repeat (first | (with_reducible exact grownBy_refl _ _) | (with_reducible refine GB.setNew ?_ (by first | exact LeS.le | exact LeS.add _ | (simp; done) | (simp; omega)) _ _) | (with_reducible refine GB.alloc ?_ _) | (with_reducible refine GB.drew ?_) | (with_reducible refine GB.upR ?_ _) | (with_reducible refine GB.up ?_ _))
                clear hK K hHeld
                have hHeld := hHeld1; clear hHeld1
                try simp only [Act.put, List.setIfInBounds_toArray, List.set_cons_zero, List.set_cons_succ]
                refine wpAnyH_take (i := 12) (v := ?_) (opAt rfl) (by kernel_rfl) (by kernel_rfl) (by kernel_rfl) (fun _ _ _ h => h) (Or.inl ⟨by rfl, ?_⟩) (by assumption) ?_
                rotate_left
                · (intro w hSw; (try dsimp only at hSw); go_simp) <;> with_reducible rfl
                try simp only [Act.put, List.setIfInBounds_toArray, List.set_cons_zero, List.set_cons_succ]
                refine wpAnyH_ready (rs := [13]) (by kernel_rfl) (by simp) ?_
                refine AllReadyH.cons (opAt rfl) (fun K hK => ?_) ?_
                · go_simp
                  refine hK.out _ _ ?_ (fun hHeld1 => ?_)
                  · (try dsimp only)
                    refine S_of_gb ?_
                    repeat (first | (with_reducible exact grownBy_refl _ _) | (with_reducible refine GB.setNew ?_ (by first | exact LeS.le | exact LeS.add _ | (simp; done) | (simp; omega)) _ _) | (with_reducible refine GB.alloc ?_ _) | (with_reducible refine GB.drew ?_) | (with_reducible refine GB.upR ?_ _) | (with_reducible refine GB.up ?_ _))
                  clear hK K hHeld
                  have hHeld := hHeld1; clear hHeld1
                  try simp only [Act.put, List.setIfInBounds_toArray, List.set_cons_zero, List.set_cons_succ]
                  refine wpAnyH_take (i := 14) (v := ?_) (opAt rfl) (by kernel_rfl) (by kernel_rfl) (by kernel_rfl) (fun _ _ _ h => h) (Or.inl ⟨by rfl, ?_⟩) (by assumption) ?_
                  rotate_left
                  · (intro w hSw; (try dsimp only at hSw); go_simp) <;> with_reducible rfl
                  try simp only [Act.put, List.setIfInBounds_toArray, List.set_cons_zero, List.set_cons_succ]
                  refine wpAnyH_ready (rs := [16]) (by kernel_rfl) (by simp) ?_
                  refine AllReadyH.cons (opAt rfl) (fun K hK => ?_) ?_
                  · go_simp
                    refine hK.out _ _ ?_ (fun hHeld1 => ?_)
                    · (try dsimp only)
                      refine S_of_gb ?_
                      repeat (first | (with_reducible exact grownBy_refl _ _) | (with_reducible refine GB.setNew ?_ (by first | exact LeS.le | exact LeS.add _ | (simp; done) | (simp; omega)) _ _) | (with_reducible refine GB.alloc ?_ _) | (with_reducible refine GB.drew ?_) | (with_reducible refine GB.upR ?_ _) | (with_reducible refine GB.up ?_ _))
                    clear hK K hHeld
                    have hHeld := hHeld1; clear hHeld1
                    try simp only [Act.put, List.setIfInBounds_toArray, List.set_cons_zero, List.set_cons_succ]
                    refine wpAnyH_done (by kernel_rfl) ?_ _
                    go_wp2_with fail
                    go_meet
                    have h2 := z2.ext.size; have h3 := z3.grown.size; have h4 := z4.grown.size
                    simp at h2 h3 h4
                    refine ⟨_, ⟨max 0 n1, max 0 (min 1000 xb.vw), g⟩, rfl, by infer_instance, by (try simp) <;> omega, ExtR.of (by repeat (first | (with_reducible exact grownBy_refl _ _) | (with_reducible refine GB.setNew ?_ (by first | exact LeS.le | exact LeS.add _ | (simp; done) | (simp; omega)) _ _) | (with_reducible refine GB.alloc ?_ _) | (with_reducible refine GB.drew ?_) | (with_reducible refine GB.upR ?_ _) | (with_reducible refine GB.up ?_ _))), ?_, by go_simp, by go_simp, by go_simp, by go_simp, by go_simp, by go_simp⟩
                    refine Rd.mono (a := lim + 1 + 1 + 1) ?_ (by omega)
                    (repeat (with_reducible refine Rd.set ?_ _ _ (by omega) (by omega)))
                    exact HR4.out.up (by repeat (first | (with_reducible exact Ext.refl _) | (with_reducible refine Ext.up ?_ _) | (with_reducible refine Ext.alloc ?_ _) | (with_reducible refine Ext.drew ?_) | (with_reducible refine Ext.setRow ?_ (by first | exact LeS.le | exact LeS.add _ | (simp; done) | (simp; omega)) _) | (with_reducible refine Ext.setCell ?_ (by first | exact LeS.le | exact LeS.add _ | (simp; done) | (simp; omega)) _)))
                  exact AllReadyH.nil
                exact AllReadyH.nil
              exact AllReadyH.nil
            refine AllReadyH.cons (opAt rfl) (fun K hK => ?_) ?_
            · go_simp
              go_at_call 87
              (with_reducible refine (pick_any w0 _ rb _ 5 (HR3.out.up (by repeat (first | (with_reducible exact Ext.refl _) | (with_reducible refine Ext.up ?_ _) | (with_reducible refine Ext.alloc ?_ _) | (with_reducible refine Ext.drew ?_) | (with_reducible refine Ext.setRow ?_ (by first | exact LeS.le | exact LeS.add _ | (simp; done) | (simp; omega)) _) | (with_reducible refine Ext.setCell ?_ (by first | exact LeS.le | exact LeS.add _ | (simp; done) | (simp; omega)) _)))) (by omega) (by omega) (by omega)).mono ?_)
              rintro e w' ⟨q, rfl, q0, q1, _, ⟨z4, rfl⟩, hr4⟩
              have HR4 := Lib.hid hr4; have hq := q1 (by omega); clear hr4 q1
              obtain ⟨j, hj⟩ : ∃ j : Nat, q = (j : Int) := ⟨q.toNat, by omega⟩
              subst hj
              have hj5 : j < 5 := (by omega)
              obtain ⟨g, hg⟩ : ∃ g : Int, ∀ h, ([.int .i64 7, .int .i64 11, .int .i64 14, .int .i64 15, .int .i64 k16] : List Value)[j]'h = .int .i64 g := (by rcases (show j = 0 ∨ j = 1 ∨ j = 2 ∨ j = 3 ∨ j = 4 by omega) with rfl | rfl | rfl | rfl | rfl; exact ⟨7, fun _ => rfl⟩; exact ⟨11, fun _ => rfl⟩; exact ⟨14, fun _ => rfl⟩; exact ⟨15, fun _ => rfl⟩; exact ⟨k16, fun _ => rfl⟩)
              try go_wp2_with fail
              refine hK.out _ _ ?_ (fun hHeld1 => ?_)
              · (try dsimp only)
                refine S_of_gb ?_
                repeat (first | (with_reducible exact grownBy_refl _ _) | (with_reducible refine GB.setNew ?_ (by first | exact LeS.le | exact LeS.add _ | (simp; done) | (simp; omega)) _ _) | (with_reducible refine GB.alloc ?_ _) | (with_reducible refine GB.drew ?_) | (with_reducible refine GB.upR ?_ _) | (with_reducible refine GB.up ?_ _))
              clear hK K hHeld
              have hHeld := hHeld1; clear hHeld1
              try simp only [Act.put, List.setIfInBounds_toArray, List.set_cons_zero, List.set_cons_succ]
              refine wpAnyH_ready (rs := [9]) (by kernel_rfl) (by simp) ?_
              refine AllReadyH.cons (opAt rfl) (fun K hK => ?_) ?_
              · go_simp
                refine hK.out _ _ ?_ (fun hHeld1 => ?_)
                · (try dsimp only)
                  refine S_of_gb ?_
                  repeat (first | (with_reducible exact grownBy_refl _ _) | (with_reducible refine GB.setNew ?_ (by first | exact LeS.le | exact LeS.add _ | (simp; done) | (simp; omega)) _ _) | (with_reducible refine GB.alloc ?_ _) | (with_reducible refine GB.drew ?_) | (with_reducible refine GB.upR ?_ _) | (with_reducible refine GB.up ?_ _))
                clear hK K hHeld
                have hHeld := hHeld1; clear hHeld1
                try simp only [Act.put, List.setIfInBounds_toArray, List.set_cons_zero, List.set_cons_succ]
                refine wpAnyH_take (i := 12) (v := ?_) (opAt rfl) (by kernel_rfl) (by kernel_rfl) (by kernel_rfl) (fun _ _ _ h => h) (Or.inl ⟨by rfl, ?_⟩) (by assumption) ?_
                rotate_left
                · (intro w hSw; (try dsimp only at hSw); go_simp) <;> with_reducible rfl
                try simp only [Act.put, List.setIfInBounds_toArray, List.set_cons_zero, List.set_cons_succ]
                refine wpAnyH_ready (rs := [13]) (by kernel_rfl) (by simp) ?_
                refine AllReadyH.cons (opAt rfl) (fun K hK => ?_) ?_
                · go_simp
                  refine hK.out _ _ ?_ (fun hHeld1 => ?_)
                  · (try dsimp only)
                    refine S_of_gb ?_
                    repeat (first | (with_reducible exact grownBy_refl _ _) | (with_reducible refine GB.setNew ?_ (by first | exact LeS.le | exact LeS.add _ | (simp; done) | (simp; omega)) _ _) | (with_reducible refine GB.alloc ?_ _) | (with_reducible refine GB.drew ?_) | (with_reducible refine GB.upR ?_ _) | (with_reducible refine GB.up ?_ _))
                  clear hK K hHeld
                  have hHeld := hHeld1; clear hHeld1
                  try simp only [Act.put, List.setIfInBounds_toArray, List.set_cons_zero, List.set_cons_succ]
                  refine wpAnyH_take (i := 14) (v := ?_) (opAt rfl) (by kernel_rfl) (by kernel_rfl) (by kernel_rfl) (fun _ _ _ h => h) (Or.inl ⟨by rfl, ?_⟩) (by assumption) ?_
                  rotate_left
                  · (intro w hSw; (try dsimp only at hSw); go_simp) <;> with_reducible rfl
                  try simp only [Act.put, List.setIfInBounds_toArray, List.set_cons_zero, List.set_cons_succ]
                  refine wpAnyH_ready (rs := [16]) (by kernel_rfl) (by simp) ?_
                  refine AllReadyH.cons (opAt rfl) (fun K hK => ?_) ?_
                  · go_simp
                    refine hK.out _ _ ?_ (fun hHeld1 => ?_)
                    · (try dsimp only)
                      refine S_of_gb ?_
                      repeat (first | (with_reducible exact grownBy_refl _ _) | (with_reducible refine GB.setNew ?_ (by first | exact LeS.le | exact LeS.add _ | (simp; done) | (simp; omega)) _ _) | (with_reducible refine GB.alloc ?_ _) | (with_reducible refine GB.drew ?_) | (with_reducible refine GB.upR ?_ _) | (with_reducible refine GB.up ?_ _))
                    clear hK K hHeld
                    have hHeld := hHeld1; clear hHeld1
                    try simp only [Act.put, List.setIfInBounds_toArray, List.set_cons_zero, List.set_cons_succ]
                    refine wpAnyH_done (by kernel_rfl) ?_ _
                    go_wp2_with fail
                    go_meet
                    have h2 := z2.ext.size; have h3 := z3.grown.size; have h4 := z4.grown.size
                    simp at h2 h3 h4
                    refine ⟨_, ⟨max 0 n1, max 0 (min 1000 xb.vw), g⟩, rfl, by infer_instance, by (try simp) <;> omega, ExtR.of (by repeat (first | (with_reducible exact grownBy_refl _ _) | (with_reducible refine GB.setNew ?_ (by first | exact LeS.le | exact LeS.add _ | (simp; done) | (simp; omega)) _ _) | (with_reducible refine GB.alloc ?_ _) | (with_reducible refine GB.drew ?_) | (with_reducible refine GB.upR ?_ _) | (with_reducible refine GB.up ?_ _))), ?_, by go_simp, by go_simp, by go_simp, by go_simp, by go_simp, by go_simp⟩
                    refine Rd.mono (a := lim + 1 + 1 + 1) ?_ (by omega)
                    (repeat (with_reducible refine Rd.set ?_ _ _ (by omega) (by omega)))
                    exact HR4.out.up (by repeat (first | (with_reducible exact Ext.refl _) | (with_reducible refine Ext.up ?_ _) | (with_reducible refine Ext.alloc ?_ _) | (with_reducible refine Ext.drew ?_) | (with_reducible refine Ext.setRow ?_ (by first | exact LeS.le | exact LeS.add _ | (simp; done) | (simp; omega)) _) | (with_reducible refine Ext.setCell ?_ (by first | exact LeS.le | exact LeS.add _ | (simp; done) | (simp; omega)) _)))
                  exact AllReadyH.nil
                exact AllReadyH.nil
              exact AllReadyH.nil
            exact AllReadyH.nil
          exact AllReadyH.nil
        refine AllReadyH.cons (opAt rfl) (fun K hK => ?_) ?_
        · go_simp
          refine hK.out _ _ ?_ (fun hHeld1 => ?_)
          · (try dsimp only)
            refine S_of_gb ?_
            repeat (first | (with_reducible exact grownBy_refl _ _) | (with_reducible refine GB.setNew ?_ (by first | exact LeS.le | exact LeS.add _ | (simp; done) | (simp; omega)) _ _) | (with_reducible refine GB.alloc ?_ _) | (with_reducible refine GB.drew ?_) | (with_reducible refine GB.upR ?_ _) | (with_reducible refine GB.up ?_ _))
          clear hK K hHeld
          have hHeld := hHeld1; clear hHeld1
          try simp only [Act.put, List.setIfInBounds_toArray, List.set_cons_zero, List.set_cons_succ]
          refine wpAnyH_ready (rs := [8]) (by kernel_rfl) (by simp) ?_
          refine AllReadyH.cons (opAt rfl) (fun K hK => ?_) ?_
          · go_simp
            go_at_call 87
            (with_reducible refine (pick_any w0 _ rb _ 16 (HR1.out.up (by repeat (first | (with_reducible exact Ext.refl _) | (with_reducible refine Ext.up ?_ _) | (with_reducible refine Ext.alloc ?_ _) | (with_reducible refine Ext.drew ?_) | (with_reducible refine Ext.setRow ?_ (by first | exact LeS.le | exact LeS.add _ | (simp; done) | (simp; omega)) _) | (with_reducible refine Ext.setCell ?_ (by first | exact LeS.le | exact LeS.add _ | (simp; done) | (simp; omega)) _)))) (by omega) (by omega) (by omega)).mono ?_)
            rintro e w' ⟨k16, rfl, _, _, _, ⟨z3, rfl⟩, hr3⟩
            have HR3 := Lib.hid hr3; clear hr3
            try go_wp2_with fail
            refine hK.out _ _ ?_ (fun hHeld1 => ?_)
            · (try dsimp only)
              refine S_of_gb ?_
              repeat (first | (with_reducible exact grownBy_refl _ _) | (with_reducible refine GB.setNew ?_ (by first | exact LeS.le | exact LeS.add _ | (simp; done) | (simp; omega)) _ _) | (with_reducible refine GB.alloc ?_ _) | (with_reducible refine GB.drew ?_) | (with_reducible refine GB.upR ?_ _) | (with_reducible refine GB.up ?_ _))
            clear hK K hHeld
            have hHeld := hHeld1; clear hHeld1
            try simp only [Act.put, List.setIfInBounds_toArray, List.set_cons_zero, List.set_cons_succ]
            refine wpAnyH_ready (rs := [9, 11]) (by kernel_rfl) (by simp) ?_
            refine AllReadyH.cons (opAt rfl) (fun K hK => ?_) ?_
            · go_simp
              refine hK.out _ _ ?_ (fun hHeld1 => ?_)
              · (try dsimp only)
                refine S_of_gb ?_
                repeat (first | (with_reducible exact grownBy_refl _ _) | (with_reducible refine GB.setNew ?_ (by first | exact LeS.le | exact LeS.add _ | (simp; done) | (simp; omega)) _ _) | (with_reducible refine GB.alloc ?_ _) | (with_reducible refine GB.drew ?_) | (with_reducible refine GB.upR ?_ _) | (with_reducible refine GB.up ?_ _))
              clear hK K hHeld
              have hHeld := hHeld1; clear hHeld1
              try simp only [Act.put, List.setIfInBounds_toArray, List.set_cons_zero, List.set_cons_succ]
              refine wpAnyH_ready (rs := [11]) (by kernel_rfl) (by simp) ?_
              refine AllReadyH.cons (opAt rfl) (fun K hK => ?_) ?_
              · go_simp
                go_at_call 87
                (with_reducible refine (pick_any w0 _ rb _ 5 (HR3.out.up (by repeat (first | (with_reducible exact Ext.refl _) | (with_reducible refine Ext.up ?_ _) | (with_reducible refine Ext.alloc ?_ _) | (with_reducible refine Ext.drew ?_) | (with_reducible refine Ext.setRow ?_ (by first | exact LeS.le | exact LeS.add _ | (simp; done) | (simp; omega)) _) | (with_reducible refine Ext.setCell ?_ (by first | exact LeS.le | exact LeS.add _ | (simp; done) | (simp; omega)) _)))) (by omega) (by omega) (by omega)).mono ?_)
                rintro e w' ⟨q, rfl, q0, q1, _, ⟨z4, rfl⟩, hr4⟩
                have HR4 := Lib.hid hr4; have hq := q1 (by omega); clear hr4 q1
                obtain ⟨j, hj⟩ : ∃ j : Nat, q = (j : Int) := ⟨q.toNat, by omega⟩
                subst hj
                have hj5 : j < 5 := (by omega)
                obtain ⟨g, hg⟩ : ∃ g : Int, ∀ h, ([.int .i64 7, .int .i64 11, .int .i64 14, .int .i64 15, .int .i64 k16] : List Value)[j]'h = .int .i64 g := (by rcases (show j = 0 ∨ j = 1 ∨ j = 2 ∨ j = 3 ∨ j = 4 by omega) with rfl | rfl | rfl | rfl | rfl; exact ⟨7, fun _ => rfl⟩; exact ⟨11, fun _ => rfl⟩; exact ⟨14, fun _ => rfl⟩; exact ⟨15, fun _ => rfl⟩; exact ⟨k16, fun _ => rfl⟩)
                try go_wp2_with fail
                refine hK.out _ _ ?_ (fun hHeld1 => ?_)
                · (try dsimp only)
                  refine S_of_gb ?_
                  repeat (first | (with_reducible exact grownBy_refl _ _) | (with_reducible refine GB.setNew ?_ (by first | exact LeS.le | exact LeS.add _ | (simp; done) | (simp; omega)) _ _) | (with_reducible refine GB.alloc ?_ _) | (with_reducible refine GB.drew ?_) | (with_reducible refine GB.upR ?_ _) | (with_reducible refine GB.up ?_ _))
                clear hK K hHeld
                have hHeld := hHeld1; clear hHeld1
                try simp only [Act.put, List.setIfInBounds_toArray, List.set_cons_zero, List.set_cons_succ]
                refine wpAnyH_take (i := 12) (v := ?_) (opAt rfl) (by kernel_rfl) (by kernel_rfl) (by kernel_rfl) (fun _ _ _ h => h) (Or.inl ⟨by rfl, ?_⟩) (by assumption) ?_
                rotate_left
                · (intro w hSw; (try dsimp only at hSw); go_simp) <;> with_reducible rfl
                try simp only [Act.put, List.setIfInBounds_toArray, List.set_cons_zero, List.set_cons_succ]
                refine wpAnyH_ready (rs := [13]) (by kernel_rfl) (by simp) ?_
                refine AllReadyH.cons (opAt rfl) (fun K hK => ?_) ?_
                · go_simp
                  refine hK.out _ _ ?_ (fun hHeld1 => ?_)
                  · (try dsimp only)
                    refine S_of_gb ?_
                    repeat (first | (with_reducible exact grownBy_refl _ _) | (with_reducible refine GB.setNew ?_ (by first | exact LeS.le | exact LeS.add _ | (simp; done) | (simp; omega)) _ _) | (with_reducible refine GB.alloc ?_ _) | (with_reducible refine GB.drew ?_) | (with_reducible refine GB.upR ?_ _) | (with_reducible refine GB.up ?_ _))
                  clear hK K hHeld
                  have hHeld := hHeld1; clear hHeld1
                  try simp only [Act.put, List.setIfInBounds_toArray, List.set_cons_zero, List.set_cons_succ]
                  refine wpAnyH_take (i := 14) (v := ?_) (opAt rfl) (by kernel_rfl) (by kernel_rfl) (by kernel_rfl) (fun _ _ _ h => h) (Or.inl ⟨by rfl, ?_⟩) (by assumption) ?_
                  rotate_left
                  · (intro w hSw; (try dsimp only at hSw); go_simp) <;> with_reducible rfl
                  try simp only [Act.put, List.setIfInBounds_toArray, List.set_cons_zero, List.set_cons_succ]
                  refine wpAnyH_ready (rs := [16]) (by kernel_rfl) (by simp) ?_
                  refine AllReadyH.cons (opAt rfl) (fun K hK => ?_) ?_
                  · go_simp
                    refine hK.out _ _ ?_ (fun hHeld1 => ?_)
                    · (try dsimp only)
                      refine S_of_gb ?_
                      repeat (first | (with_reducible exact grownBy_refl _ _) | (with_reducible refine GB.setNew ?_ (by first | exact LeS.le | exact LeS.add _ | (simp; done) | (simp; omega)) _ _) | (with_reducible refine GB.alloc ?_ _) | (with_reducible refine GB.drew ?_) | (with_reducible refine GB.upR ?_ _) | (with_reducible refine GB.up ?_ _))
                    clear hK K hHeld
                    have hHeld := hHeld1; clear hHeld1
                    try simp only [Act.put, List.setIfInBounds_toArray, List.set_cons_zero, List.set_cons_succ]
                    refine wpAnyH_done (by kernel_rfl) ?_ _
                    go_wp2_with fail
                    go_meet
                    have h2 := z2.ext.size; have h3 := z3.grown.size; have h4 := z4.grown.size
                    simp at h2 h3 h4
                    refine ⟨_, ⟨max 0 n1, max 0 (min 1000 xb.vw), g⟩, rfl, by infer_instance, by (try simp) <;> omega, ExtR.of (by repeat (first | (with_reducible exact grownBy_refl _ _) | (with_reducible refine GB.setNew ?_ (by first | exact LeS.le | exact LeS.add _ | (simp; done) | (simp; omega)) _ _) | (with_reducible refine GB.alloc ?_ _) | (with_reducible refine GB.drew ?_) | (with_reducible refine GB.upR ?_ _) | (with_reducible refine GB.up ?_ _))), ?_, by go_simp, by go_simp, by go_simp, by go_simp, by go_simp, by go_simp⟩
                    refine Rd.mono (a := lim + 1 + 1 + 1) ?_ (by omega)
                    (repeat (with_reducible refine Rd.set ?_ _ _ (by omega) (by omega)))
                    exact HR4.out.up (by repeat (first | (with_reducible exact Ext.refl _) | (with_reducible refine Ext.up ?_ _) | (with_reducible refine Ext.alloc ?_ _) | (with_reducible refine Ext.drew ?_) | (with_reducible refine Ext.setRow ?_ (by first | exact LeS.le | exact LeS.add _ | (simp; done) | (simp; omega)) _) | (with_reducible refine Ext.setCell ?_ (by first | exact LeS.le | exact LeS.add _ | (simp; done) | (simp; omega)) _)))
                  exact AllReadyH.nil
                exact AllReadyH.nil
              exact AllReadyH.nil
            refine AllReadyH.cons (opAt rfl) (fun K hK => ?_) ?_
            · go_simp
              go_at_call 87
              (with_reducible refine (pick_any w0 _ rb _ 5 (HR3.out.up (by repeat (first | (with_reducible exact Ext.refl _) | (with_reducible refine Ext.up ?_ _) | (with_reducible refine Ext.alloc ?_ _) | (with_reducible refine Ext.drew ?_) | (with_reducible refine Ext.setRow ?_ (by first | exact LeS.le | exact LeS.add _ | (simp; done) | (simp; omega)) _) | (with_reducible refine Ext.setCell ?_ (by first | exact LeS.le | exact LeS.add _ | (simp; done) | (simp; omega)) _)))) (by omega) (by omega) (by omega)).mono ?_)
              rintro e w' ⟨q, rfl, q0, q1, _, ⟨z4, rfl⟩, hr4⟩
              have HR4 := Lib.hid hr4; have hq := q1 (by omega); clear hr4 q1
              obtain ⟨j, hj⟩ : ∃ j : Nat, q = (j : Int) := ⟨q.toNat, by omega⟩
              subst hj
              have hj5 : j < 5 := (by omega)
              obtain ⟨g, hg⟩ : ∃ g : Int, ∀ h, ([.int .i64 7, .int .i64 11, .int .i64 14, .int .i64 15, .int .i64 k16] : List Value)[j]'h = .int .i64 g := (by rcases (show j = 0 ∨ j = 1 ∨ j = 2 ∨ j = 3 ∨ j = 4 by omega) with rfl | rfl | rfl | rfl | rfl; exact ⟨7, fun _ => rfl⟩; exact ⟨11, fun _ => rfl⟩; exact ⟨14, fun _ => rfl⟩; exact ⟨15, fun _ => rfl⟩; exact ⟨k16, fun _ => rfl⟩)
              try go_wp2_with fail
              refine hK.out _ _ ?_ (fun hHeld1 => ?_)
              · (try dsimp only)
                refine S_of_gb ?_
                repeat (first | (with_reducible exact grownBy_refl _ _) | (with_reducible refine GB.setNew ?_ (by first | exact LeS.le | exact LeS.add _ | (simp; done) | (simp; omega)) _ _) | (with_reducible refine GB.alloc ?_ _) | (with_reducible refine GB.drew ?_) | (with_reducible refine GB.upR ?_ _) | (with_reducible refine GB.up ?_ _))
              clear hK K hHeld
              have hHeld := hHeld1; clear hHeld1
              try simp only [Act.put, List.setIfInBounds_toArray, List.set_cons_zero, List.set_cons_succ]
              refine wpAnyH_ready (rs := [9]) (by kernel_rfl) (by simp) ?_
              refine AllReadyH.cons (opAt rfl) (fun K hK => ?_) ?_
              · go_simp
                refine hK.out _ _ ?_ (fun hHeld1 => ?_)
                · (try dsimp only)
                  refine S_of_gb ?_
                  repeat (first | (with_reducible exact grownBy_refl _ _) | (with_reducible refine GB.setNew ?_ (by first | exact LeS.le | exact LeS.add _ | (simp; done) | (simp; omega)) _ _) | (with_reducible refine GB.alloc ?_ _) | (with_reducible refine GB.drew ?_) | (with_reducible refine GB.upR ?_ _) | (with_reducible refine GB.up ?_ _))
                clear hK K hHeld
                have hHeld := hHeld1; clear hHeld1
                try simp only [Act.put, List.setIfInBounds_toArray, List.set_cons_zero, List.set_cons_succ]
                refine wpAnyH_take (i := 12) (v := ?_) (opAt rfl) (by kernel_rfl) (by kernel_rfl) (by kernel_rfl) (fun _ _ _ h => h) (Or.inl ⟨by rfl, ?_⟩) (by assumption) ?_
                rotate_left
                · (intro w hSw; (try dsimp only at hSw); go_simp) <;> with_reducible rfl
                try simp only [Act.put, List.setIfInBounds_toArray, List.set_cons_zero, List.set_cons_succ]
                refine wpAnyH_ready (rs := [13]) (by kernel_rfl) (by simp) ?_
                refine AllReadyH.cons (opAt rfl) (fun K hK => ?_) ?_
                · go_simp
                  refine hK.out _ _ ?_ (fun hHeld1 => ?_)
                  · (try dsimp only)
                    refine S_of_gb ?_
                    repeat (first | (with_reducible exact grownBy_refl _ _) | (with_reducible refine GB.setNew ?_ (by first | exact LeS.le | exact LeS.add _ | (simp; done) | (simp; omega)) _ _) | (with_reducible refine GB.alloc ?_ _) | (with_reducible refine GB.drew ?_) | (with_reducible refine GB.upR ?_ _) | (with_reducible refine GB.up ?_ _))
                  clear hK K hHeld
                  have hHeld := hHeld1; clear hHeld1
                  try simp only [Act.put, List.setIfInBounds_toArray, List.set_cons_zero, List.set_cons_succ]
                  refine wpAnyH_take (i := 14) (v := ?_) (opAt rfl) (by kernel_rfl) (by kernel_rfl) (by kernel_rfl) (fun _ _ _ h => h) (Or.inl ⟨by rfl, ?_⟩) (by assumption) ?_
                  rotate_left
                  · (intro w hSw; (try dsimp only at hSw); go_simp) <;> with_reducible rfl
                  try simp only [Act.put, List.setIfInBounds_toArray, List.set_cons_zero, List.set_cons_succ]
                  refine wpAnyH_ready (rs := [16]) (by kernel_rfl) (by simp) ?_
                  refine AllReadyH.cons (opAt rfl) (fun K hK => ?_) ?_
                  · go_simp
                    refine hK.out _ _ ?_ (fun hHeld1 => ?_)
                    · (try dsimp only)
                      refine S_of_gb ?_
                      repeat (first | (with_reducible exact grownBy_refl _ _) | (with_reducible refine GB.setNew ?_ (by first | exact LeS.le | exact LeS.add _ | (simp; done) | (simp; omega)) _ _) | (with_reducible refine GB.alloc ?_ _) | (with_reducible refine GB.drew ?_) | (with_reducible refine GB.upR ?_ _) | (with_reducible refine GB.up ?_ _))
                    clear hK K hHeld
                    have hHeld := hHeld1; clear hHeld1
                    try simp only [Act.put, List.setIfInBounds_toArray, List.set_cons_zero, List.set_cons_succ]
                    refine wpAnyH_done (by kernel_rfl) ?_ _
                    go_wp2_with fail
                    go_meet
                    have h2 := z2.ext.size; have h3 := z3.grown.size; have h4 := z4.grown.size
                    simp at h2 h3 h4
                    refine ⟨_, ⟨max 0 n1, max 0 (min 1000 xb.vw), g⟩, rfl, by infer_instance, by (try simp) <;> omega, ExtR.of (by repeat (first | (with_reducible exact grownBy_refl _ _) | (with_reducible refine GB.setNew ?_ (by first | exact LeS.le | exact LeS.add _ | (simp; done) | (simp; omega)) _ _) | (with_reducible refine GB.alloc ?_ _) | (with_reducible refine GB.drew ?_) | (with_reducible refine GB.upR ?_ _) | (with_reducible refine GB.up ?_ _))), ?_, by go_simp, by go_simp, by go_simp, by go_simp, by go_simp, by go_simp⟩
                    refine Rd.mono (a := lim + 1 + 1 + 1) ?_ (by omega)
                    (repeat (with_reducible refine Rd.set ?_ _ _ (by omega) (by omega)))
                    exact HR4.out.up (by repeat (first | (with_reducible exact Ext.refl _) | (with_reducible refine Ext.up ?_ _) | (with_reducible refine Ext.alloc ?_ _) | (with_reducible refine Ext.drew ?_) | (with_reducible refine Ext.setRow ?_ (by first | exact LeS.le | exact LeS.add _ | (simp; done) | (simp; omega)) _) | (with_reducible refine Ext.setCell ?_ (by first | exact LeS.le | exact LeS.add _ | (simp; done) | (simp; omega)) _)))
                  exact AllReadyH.nil
                exact AllReadyH.nil
              exact AllReadyH.nil
            exact AllReadyH.nil
          exact AllReadyH.nil
        exact AllReadyH.nil
      refine AllReadyH.cons (opAt rfl) (fun K hK => ?_) ?_
      · go_simp
        refine hK.out _ _ ?_ (fun hHeld1 => ?_)
        · (try dsimp only)
          refine S_of_gb ?_
          repeat (first | (with_reducible exact grownBy_refl _ _) | (with_reducible refine GB.setNew ?_ (by first | exact LeS.le | exact LeS.add _ | (simp; done) | (simp; omega)) _ _) | (with_reducible refine GB.alloc ?_ _) | (with_reducible refine GB.drew ?_) | (with_reducible refine GB.upR ?_ _) | (with_reducible refine GB.up ?_ _))
        clear hK K hHeld
        have hHeld := hHeld1; clear hHeld1
        try simp only [Act.put, List.setIfInBounds_toArray, List.set_cons_zero, List.set_cons_succ]
        refine wpAnyH_ready (rs := [1]) (by kernel_rfl) (by simp) ?_
        refine AllReadyH.cons (opAt rfl) (fun K hK => ?_) ?_
        · go_simp
          (go_at_call 38; refine (kb _ ((HX.out.sl Actn.enc_length).up (by repeat (first | (with_reducible exact Ext.refl _) | (with_reducible refine Ext.up ?_ _) | (with_reducible refine Ext.alloc ?_ _) | (with_reducible refine Ext.drew ?_) | (with_reducible refine Ext.setRow ?_ (by first | exact LeS.le | exact LeS.add _ | (simp; done) | (simp; omega)) _) | (with_reducible refine Ext.setCell ?_ (by first | exact LeS.le | exact LeS.add _ | (simp; done) | (simp; omega)) _))))).mono ?_; rintro e w' ⟨rfl, z2, rfl⟩)
          try go_wp2_with fail
          refine hK.out _ _ ?_ (fun hHeld1 => ?_)
          · (try dsimp only)
            refine S_of_gb ?_
            repeat (first | (with_reducible exact grownBy_refl _ _) | (with_reducible refine GB.setNew ?_ (by first | exact LeS.le | exact LeS.add _ | (simp; done) | (simp; omega)) _ _) | (with_reducible refine GB.alloc ?_ _) | (with_reducible refine GB.drew ?_) | (with_reducible refine GB.upR ?_ _) | (with_reducible refine GB.up ?_ _))
          clear hK K hHeld
          have hHeld := hHeld1; clear hHeld1
          try simp only [Act.put, List.setIfInBounds_toArray, List.set_cons_zero, List.set_cons_succ]
          refine wpAnyH_take (i := 2) (v := ?_) (opAt rfl) (by kernel_rfl) (by kernel_rfl) (by kernel_rfl) (fun _ _ _ h => h) (Or.inl ⟨by rfl, ?_⟩) (by assumption) ?_
          rotate_left
          · (intro w hSw; (try dsimp only at hSw); go_simp) <;> with_reducible rfl
          try simp only [Act.put, List.setIfInBounds_toArray, List.set_cons_zero, List.set_cons_succ]
          refine wpAnyH_ready (rs := [8]) (by kernel_rfl) (by simp) ?_
          refine AllReadyH.cons (opAt rfl) (fun K hK => ?_) ?_
          · go_simp
            go_at_call 87
            (with_reducible refine (pick_any w0 _ rb _ 16 (HR1.out.up (by repeat (first | (with_reducible exact Ext.refl _) | (with_reducible refine Ext.up ?_ _) | (with_reducible refine Ext.alloc ?_ _) | (with_reducible refine Ext.drew ?_) | (with_reducible refine Ext.setRow ?_ (by first | exact LeS.le | exact LeS.add _ | (simp; done) | (simp; omega)) _) | (with_reducible refine Ext.setCell ?_ (by first | exact LeS.le | exact LeS.add _ | (simp; done) | (simp; omega)) _)))) (by omega) (by omega) (by omega)).mono ?_)
            rintro e w' ⟨k16, rfl, _, _, _, ⟨z3, rfl⟩, hr3⟩
            have HR3 := Lib.hid hr3; clear hr3
            try go_wp2_with fail
            refine hK.out _ _ ?_ (fun hHeld1 => ?_)
            · (try dsimp only)
              refine S_of_gb ?_
              repeat (first | (with_reducible exact grownBy_refl _ _) | (with_reducible refine GB.setNew ?_ (by first | exact LeS.le | exact LeS.add _ | (simp; done) | (simp; omega)) _ _) | (with_reducible refine GB.alloc ?_ _) | (with_reducible refine GB.drew ?_) | (with_reducible refine GB.upR ?_ _) | (with_reducible refine GB.up ?_ _))
            clear hK K hHeld
            have hHeld := hHeld1; clear hHeld1
            try simp only [Act.put, List.setIfInBounds_toArray, List.set_cons_zero, List.set_cons_succ]
            refine wpAnyH_ready (rs := [9, 11]) (by kernel_rfl) (by simp) ?_
            refine AllReadyH.cons (opAt rfl) (fun K hK => ?_) ?_
            · go_simp
              refine hK.out _ _ ?_ (fun hHeld1 => ?_)
              · (try dsimp only)
                refine S_of_gb ?_
                repeat (first | (with_reducible exact grownBy_refl _ _) | (with_reducible refine GB.setNew ?_ (by first | exact LeS.le | exact LeS.add _ | (simp; done) | (simp; omega)) _ _) | (with_reducible refine GB.alloc ?_ _) | (with_reducible refine GB.drew ?_) | (with_reducible refine GB.upR ?_ _) | (with_reducible refine GB.up ?_ _))
              clear hK K hHeld
              have hHeld := hHeld1; clear hHeld1
              try simp only [Act.put, List.setIfInBounds_toArray, List.set_cons_zero, List.set_cons_succ]
              refine wpAnyH_ready (rs := [11]) (by kernel_rfl) (by simp) ?_
              refine AllReadyH.cons (opAt rfl) (fun K hK => ?_) ?_
              · go_simp
                go_at_call 87
                (with_reducible refine (pick_any w0 _ rb _ 5 (HR3.out.up (by repeat (first | (with_reducible exact Ext.refl _) | (with_reducible refine Ext.up ?_ _) | (with_reducible refine Ext.alloc ?_ _) | (with_reducible refine Ext.drew ?_) | (with_reducible refine Ext.setRow ?_ (by first | exact LeS.le | exact LeS.add _ | (simp; done) | (simp; omega)) _) | (with_reducible refine Ext.setCell ?_ (by first | exact LeS.le | exact LeS.add _ | (simp; done) | (simp; omega)) _)))) (by omega) (by omega) (by omega)).mono ?_)
                rintro e w' ⟨q, rfl, q0, q1, _, ⟨z4, rfl⟩, hr4⟩
                have HR4 := Lib.hid hr4; have hq := q1 (by omega); clear hr4 q1
                obtain ⟨j, hj⟩ : ∃ j : Nat, q = (j : Int) := ⟨q.toNat, by omega⟩
                subst hj
                have hj5 : j < 5 := (by omega)
                obtain ⟨g, hg⟩ : ∃ g : Int, ∀ h, ([.int .i64 7, .int .i64 11, .int .i64 14, .int .i64 15, .int .i64 k16] : List Value)[j]'h = .int .i64 g := (by rcases (show j = 0 ∨ j = 1 ∨ j = 2 ∨ j = 3 ∨ j = 4 by omega) with rfl | rfl | rfl | rfl | rfl; exact ⟨7, fun _ => rfl⟩; exact ⟨11, fun _ => rfl⟩; exact ⟨14, fun _ => rfl⟩; exact ⟨15, fun _ => rfl⟩; exact ⟨k16, fun _ => rfl⟩)
                try go_wp2_with fail
                refine hK.out _ _ ?_ (fun hHeld1 => ?_)
                · (try dsimp only)
                  refine S_of_gb ?_
                  repeat (first | (with_reducible exact grownBy_refl _ _) | (with_reducible refine GB.setNew ?_ (by first | exact LeS.le | exact LeS.add _ | (simp; done) | (simp; omega)) _ _) | (with_reducible refine GB.alloc ?_ _) | (with_reducible refine GB.drew ?_) | (with_reducible refine GB.upR ?_ _) | (with_reducible refine GB.up ?_ _))
                clear hK K hHeld
                have hHeld := hHeld1; clear hHeld1
                try simp only [Act.put, List.setIfInBounds_toArray, List.set_cons_zero, List.set_cons_succ]
                refine wpAnyH_take (i := 12) (v := ?_) (opAt rfl) (by kernel_rfl) (by kernel_rfl) (by kernel_rfl) (fun _ _ _ h => h) (Or.inl ⟨by rfl, ?_⟩) (by assumption) ?_
                rotate_left
                · (intro w hSw; (try dsimp only at hSw); go_simp) <;> with_reducible rfl
                try simp only [Act.put, List.setIfInBounds_toArray, List.set_cons_zero, List.set_cons_succ]
                refine wpAnyH_ready (rs := [13]) (by kernel_rfl) (by simp) ?_
                refine AllReadyH.cons (opAt rfl) (fun K hK => ?_) ?_
                · go_simp
                  refine hK.out _ _ ?_ (fun hHeld1 => ?_)
                  · (try dsimp only)
                    refine S_of_gb ?_
                    repeat (first | (with_reducible exact grownBy_refl _ _) | (with_reducible refine GB.setNew ?_ (by first | exact LeS.le | exact LeS.add _ | (simp; done) | (simp; omega)) _ _) | (with_reducible refine GB.alloc ?_ _) | (with_reducible refine GB.drew ?_) | (with_reducible refine GB.upR ?_ _) | (with_reducible refine GB.up ?_ _))
                  clear hK K hHeld
                  have hHeld := hHeld1; clear hHeld1
                  try simp only [Act.put, List.setIfInBounds_toArray, List.set_cons_zero, List.set_cons_succ]
                  refine wpAnyH_take (i := 14) (v := ?_) (opAt rfl) (by kernel_rfl) (by kernel_rfl) (by kernel_rfl) (fun _ _ _ h => h) (Or.inl ⟨by rfl, ?_⟩) (by assumption) ?_
                  rotate_left
                  · (intro w hSw; (try dsimp only at hSw); go_simp) <;> with_reducible rfl
                  try simp only [Act.put, List.setIfInBounds_toArray, List.set_cons_zero, List.set_cons_succ]
                  refine wpAnyH_ready (rs := [16]) (by kernel_rfl) (by simp) ?_
                  refine AllReadyH.cons (opAt rfl) (fun K hK => ?_) ?_
                  · go_simp
                    refine hK.out _ _ ?_ (fun hHeld1 => ?_)
                    · (try dsimp only)
                      refine S_of_gb ?_
                      repeat (first | (with_reducible exact grownBy_refl _ _) | (with_reducible refine GB.setNew ?_ (by first | exact LeS.le | exact LeS.add _ | (simp; done) | (simp; omega)) _ _) | (with_reducible refine GB.alloc ?_ _) | (with_reducible refine GB.drew ?_) | (with_reducible refine GB.upR ?_ _) | (with_reducible refine GB.up ?_ _))
                    clear hK K hHeld
                    have hHeld := hHeld1; clear hHeld1
                    try simp only [Act.put, List.setIfInBounds_toArray, List.set_cons_zero, List.set_cons_succ]
                    refine wpAnyH_done (by kernel_rfl) ?_ _
                    go_wp2_with fail
                    go_meet
                    have h2 := z2.ext.size; have h3 := z3.grown.size; have h4 := z4.grown.size
                    simp at h2 h3 h4
                    refine ⟨_, ⟨max 0 n1, max 0 (min 1000 xb.vw), g⟩, rfl, by infer_instance, by (try simp) <;> omega, ExtR.of (by repeat (first | (with_reducible exact grownBy_refl _ _) | (with_reducible refine GB.setNew ?_ (by first | exact LeS.le | exact LeS.add _ | (simp; done) | (simp; omega)) _ _) | (with_reducible refine GB.alloc ?_ _) | (with_reducible refine GB.drew ?_) | (with_reducible refine GB.upR ?_ _) | (with_reducible refine GB.up ?_ _))), ?_, by go_simp, by go_simp, by go_simp, by go_simp, by go_simp, by go_simp⟩
                    refine Rd.mono (a := lim + 1 + 1 + 1) ?_ (by omega)
                    (repeat (with_reducible refine Rd.set ?_ _ _ (by omega) (by omega)))
                    exact HR4.out.up (by repeat (first | (with_reducible exact Ext.refl _) | (with_reducible refine Ext.up ?_ _) | (with_reducible refine Ext.alloc ?_ _) | (with_reducible refine Ext.drew ?_) | (with_reducible refine Ext.setRow ?_ (by first | exact LeS.le | exact LeS.add _ | (simp; done) | (simp; omega)) _) | (with_reducible refine Ext.setCell ?_ (by first | exact LeS.le | exact LeS.add _ | (simp; done) | (simp; omega)) _)))
                  exact AllReadyH.nil
                exact AllReadyH.nil
              exact AllReadyH.nil
            refine AllReadyH.cons (opAt rfl) (fun K hK => ?_) ?_
            · go_simp
              go_at_call 87
              (with_reducible refine (pick_any w0 _ rb _ 5 (HR3.out.up (by repeat (first | (with_reducible exact Ext.refl _) | (with_reducible refine Ext.up ?_ _) | (with_reducible refine Ext.alloc ?_ _) | (with_reducible refine Ext.drew ?_) | (with_reducible refine Ext.setRow ?_ (by first | exact LeS.le | exact LeS.add _ | (simp; done) | (simp; omega)) _) | (with_reducible refine Ext.setCell ?_ (by first | exact LeS.le | exact LeS.add _ | (simp; done) | (simp; omega)) _)))) (by omega) (by omega) (by omega)).mono ?_)
              rintro e w' ⟨q, rfl, q0, q1, _, ⟨z4, rfl⟩, hr4⟩
              have HR4 := Lib.hid hr4; have hq := q1 (by omega); clear hr4 q1
              obtain ⟨j, hj⟩ : ∃ j : Nat, q = (j : Int) := ⟨q.toNat, by omega⟩
              subst hj
              have hj5 : j < 5 := (by omega)
              obtain ⟨g, hg⟩ : ∃ g : Int, ∀ h, ([.int .i64 7, .int .i64 11, .int .i64 14, .int .i64 15, .int .i64 k16] : List Value)[j]'h = .int .i64 g := (by rcases (show j = 0 ∨ j = 1 ∨ j = 2 ∨ j = 3 ∨ j = 4 by omega) with rfl | rfl | rfl | rfl | rfl; exact ⟨7, fun _ => rfl⟩; exact ⟨11, fun _ => rfl⟩; exact ⟨14, fun _ => rfl⟩; exact ⟨15, fun _ => rfl⟩; exact ⟨k16, fun _ => rfl⟩)
              try go_wp2_with fail
              refine hK.out _ _ ?_ (fun hHeld1 => ?_)
              · (try dsimp only)
                refine S_of_gb ?_
                repeat (first | (with_reducible exact grownBy_refl _ _) | (with_reducible refine GB.setNew ?_ (by first | exact LeS.le | exact LeS.add _ | (simp; done) | (simp; omega)) _ _) | (with_reducible refine GB.alloc ?_ _) | (with_reducible refine GB.drew ?_) | (with_reducible refine GB.upR ?_ _) | (with_reducible refine GB.up ?_ _))
              clear hK K hHeld
              have hHeld := hHeld1; clear hHeld1
              try simp only [Act.put, List.setIfInBounds_toArray, List.set_cons_zero, List.set_cons_succ]
              refine wpAnyH_ready (rs := [9]) (by kernel_rfl) (by simp) ?_
              refine AllReadyH.cons (opAt rfl) (fun K hK => ?_) ?_
              · go_simp
                refine hK.out _ _ ?_ (fun hHeld1 => ?_)
                · (try dsimp only)
                  refine S_of_gb ?_
                  repeat (first | (with_reducible exact grownBy_refl _ _) | (with_reducible refine GB.setNew ?_ (by first | exact LeS.le | exact LeS.add _ | (simp; done) | (simp; omega)) _ _) | (with_reducible refine GB.alloc ?_ _) | (with_reducible refine GB.drew ?_) | (with_reducible refine GB.upR ?_ _) | (with_reducible refine GB.up ?_ _))
                clear hK K hHeld
                have hHeld := hHeld1; clear hHeld1
                try simp only [Act.put, List.setIfInBounds_toArray, List.set_cons_zero, List.set_cons_succ]
                refine wpAnyH_take (i := 12) (v := ?_) (opAt rfl) (by kernel_rfl) (by kernel_rfl) (by kernel_rfl) (fun _ _ _ h => h) (Or.inl ⟨by rfl, ?_⟩) (by assumption) ?_
                rotate_left
                · (intro w hSw; (try dsimp only at hSw); go_simp) <;> with_reducible rfl
                try simp only [Act.put, List.setIfInBounds_toArray, List.set_cons_zero, List.set_cons_succ]
                refine wpAnyH_ready (rs := [13]) (by kernel_rfl) (by simp) ?_
                refine AllReadyH.cons (opAt rfl) (fun K hK => ?_) ?_
                · go_simp
                  refine hK.out _ _ ?_ (fun hHeld1 => ?_)
                  · (try dsimp only)
                    refine S_of_gb ?_
                    repeat (first | (with_reducible exact grownBy_refl _ _) | (with_reducible refine GB.setNew ?_ (by first | exact LeS.le | exact LeS.add _ | (simp; done) | (simp; omega)) _ _) | (with_reducible refine GB.alloc ?_ _) | (with_reducible refine GB.drew ?_) | (with_reducible refine GB.upR ?_ _) | (with_reducible refine GB.up ?_ _))
                  clear hK K hHeld
                  have hHeld := hHeld1; clear hHeld1
                  try simp only [Act.put, List.setIfInBounds_toArray, List.set_cons_zero, List.set_cons_succ]
                  refine wpAnyH_take (i := 14) (v := ?_) (opAt rfl) (by kernel_rfl) (by kernel_rfl) (by kernel_rfl) (fun _ _ _ h => h) (Or.inl ⟨by rfl, ?_⟩) (by assumption) ?_
                  rotate_left
                  · (intro w hSw; (try dsimp only at hSw); go_simp) <;> with_reducible rfl
                  try simp only [Act.put, List.setIfInBounds_toArray, List.set_cons_zero, List.set_cons_succ]
                  refine wpAnyH_ready (rs := [16]) (by kernel_rfl) (by simp) ?_
                  refine AllReadyH.cons (opAt rfl) (fun K hK => ?_) ?_
                  · go_simp
                    refine hK.out _ _ ?_ (fun hHeld1 => ?_)
                    · (try dsimp only)
                      refine S_of_gb ?_
                      repeat (first | (with_reducible exact grownBy_refl _ _) | (with_reducible refine GB.setNew ?_ (by first | exact LeS.le | exact LeS.add _ | (simp; done) | (simp; omega)) _ _) | (with_reducible refine GB.alloc ?_ _) | (with_reducible refine GB.drew ?_) | (with_reducible refine GB.upR ?_ _) | (with_reducible refine GB.up ?_ _))
                    clear hK K hHeld
                    have hHeld := hHeld1; clear hHeld1
                    try simp only [Act.put, List.setIfInBounds_toArray, List.set_cons_zero, List.set_cons_succ]
                    refine wpAnyH_done (by kernel_rfl) ?_ _
                    go_wp2_with fail
                    go_meet
                    have h2 := z2.ext.size; have h3 := z3.grown.size; have h4 := z4.grown.size
                    simp at h2 h3 h4
                    refine ⟨_, ⟨max 0 n1, max 0 (min 1000 xb.vw), g⟩, rfl, by infer_instance, by (try simp) <;> omega, ExtR.of (by repeat (first | (with_reducible exact grownBy_refl _ _) | (with_reducible refine GB.setNew ?_ (by first | exact LeS.le | exact LeS.add _ | (simp; done) | (simp; omega)) _ _) | (with_reducible refine GB.alloc ?_ _) | (with_reducible refine GB.drew ?_) | (with_reducible refine GB.upR ?_ _) | (with_reducible refine GB.up ?_ _))), ?_, by go_simp, by go_simp, by go_simp, by go_simp, by go_simp, by go_simp⟩
                    refine Rd.mono (a := lim + 1 + 1 + 1) ?_ (by omega)
                    (repeat (with_reducible refine Rd.set ?_ _ _ (by omega) (by omega)))
                    exact HR4.out.up (by repeat (first | (with_reducible exact Ext.refl _) | (with_reducible refine Ext.up ?_ _) | (with_reducible refine Ext.alloc ?_ _) | (with_reducible refine Ext.drew ?_) | (with_reducible refine Ext.setRow ?_ (by first | exact LeS.le | exact LeS.add _ | (simp; done) | (simp; omega)) _) | (with_reducible refine Ext.setCell ?_ (by first | exact LeS.le | exact LeS.add _ | (simp; done) | (simp; omega)) _)))
                  exact AllReadyH.nil
                exact AllReadyH.nil
              exact AllReadyH.nil
            exact AllReadyH.nil
          exact AllReadyH.nil
        exact AllReadyH.nil
      exact AllReadyH.nil
    case rest =>
      obtain ⟨Cx, c, rfl, hLC, hCw, ⟨zB, rfl⟩, hr2, y0, y1, y2, f0, f1, f2⟩ := hcut
      have HR2 := Lib.hid hr2
      have hLB : LtS rb zB.val := ⟨hr2.lt⟩
      have hNC : NeS Cx rb := ⟨by omega⟩
      have hN1 : NeS (w.heap.size + 1) Cx := ⟨by omega⟩
      have hN2 : NeS Cx (w.heap.size + 1) := ⟨by omega⟩
      clear hr2 x0 x1 x2 x3 x4 x5 HX HR1 kb
      go_wp2_with fail
      refine (odd_any w0 _ rb _ 9 (HR2.out.up (by repeat (first | (with_reducible exact Ext.refl _) | (with_reducible refine Ext.up ?_ _) | (with_reducible refine Ext.alloc ?_ _) | (with_reducible refine Ext.drew ?_) | (with_reducible refine Ext.setRow ?_ (by first | exact LeS.le | exact LeS.add _ | (simp; done) | (simp; omega)) _) | (with_reducible refine Ext.setCell ?_ (by first | exact LeS.le | exact LeS.add _ | (simp; done) | (simp; omega)) _)))) (by omega) (by omega) (by omega)).mono ?_; rintro e w' ⟨bo, rfl, _, ⟨z4, rfl⟩, hr4⟩
      have HR4 := Lib.hid hr4; have HG4 := Lib.hid (GB.upR (grownBy_trans (GB.upR (GB.alloc (GB.alloc (grownBy_refl w (some rb)) _) _) zA) zB.grown) z4)
      have hL4 : LtS rb z4.val := ⟨hr4.lt⟩
      clear hr4
      rcases bo with _ | _
      · go_wp2_with fail
        refine (odd_any w0 _ rb _ n (HR4.out.up (by repeat (first | (with_reducible exact Ext.refl _) | (with_reducible refine Ext.up ?_ _) | (with_reducible refine Ext.alloc ?_ _) | (with_reducible refine Ext.drew ?_) | (with_reducible refine Ext.setRow ?_ (by first | exact LeS.le | exact LeS.add _ | (simp; done) | (simp; omega)) _) | (with_reducible refine Ext.setCell ?_ (by first | exact LeS.le | exact LeS.add _ | (simp; done) | (simp; omega)) _)))) (by omega) (by omega) (by omega)).mono ?_; rintro e w' ⟨b2, rfl, _, ⟨z5, rfl⟩, hr5⟩
        have HR5 := Lib.hid hr5; have HG5 := Lib.hid (GB.upR (HG4.out) z5)
        have hL5 : LtS rb z5.val := ⟨hr5.lt⟩
        clear hr5
        rcases b2 with _ | _
        · go_wp2_with fail
          have r0 : z5.val.cell? ⟨w.heap.size + 1, 0, none⟩ = some (.int .i64 0) := by go_simp
          have r1 : z5.val.cell? ⟨w.heap.size + 1, 1, none⟩ = some (.int .i64 0) := by go_simp
          have r2 : z5.val.cell? ⟨w.heap.size + 1, 2, none⟩ = some (.int .i64 0) := by go_simp
          refine bodyPost_ret (v := .agg #[.int .i64 c.s, .int .i64 c.v, .int .i64 c.g]) (by simp [results, Try.results70, go_sem, r0, r1, r2]) rfl ?_
          refine ⟨⟨c.s, c.v, c.g⟩, rfl, ExtR.of ?_, ?_⟩
          · (repeat (with_reducible refine GB.setNew ?_ (by omega) _ _))
            exact HG5.out
          · refine Rd.mono (a := lim + 3 + 1 + 1) ?_ (by omega)
            (repeat (with_reducible refine Rd.set ?_ _ _ (by omega) (by omega)))
            exact HR5.out
        go_wp2_with fail
        refine (pick_any w0 _ rb _ 3 (HR5.out.up (by repeat (first | (with_reducible exact Ext.refl _) | (with_reducible refine Ext.up ?_ _) | (with_reducible refine Ext.alloc ?_ _) | (with_reducible refine Ext.drew ?_) | (with_reducible refine Ext.setRow ?_ (by first | exact LeS.le | exact LeS.add _ | (simp; done) | (simp; omega)) _) | (with_reducible refine Ext.setCell ?_ (by first | exact LeS.le | exact LeS.add _ | (simp; done) | (simp; omega)) _)))) (by omega) (by omega) (by omega)).mono ?_; rintro e w' ⟨q, rfl, q0, q1, _, ⟨z6, rfl⟩, hr6⟩
        have HR6 := Lib.hid hr6; have HG6 := Lib.hid (GB.upR HG5.out z6); have hq := q1 (by omega)
        have hL6 : LtS rb z6.val := ⟨hr6.lt⟩
        clear hr6 q1
        rcases (show q = 0 ∨ q = 1 ∨ q = 2 by omega) with rfl | rfl | rfl
        · go_wp2_with fail
          refine (pick_any w0 _ rb _ 2 (HR6.out.up (by repeat (first | (with_reducible exact Ext.refl _) | (with_reducible refine Ext.up ?_ _) | (with_reducible refine Ext.alloc ?_ _) | (with_reducible refine Ext.drew ?_) | (with_reducible refine Ext.setRow ?_ (by first | exact LeS.le | exact LeS.add _ | (simp; done) | (simp; omega)) _) | (with_reducible refine Ext.setCell ?_ (by first | exact LeS.le | exact LeS.add _ | (simp; done) | (simp; omega)) _)))) (by omega) (by omega) (by omega)).mono ?_; rintro e w' ⟨y, rfl, y0, y1, _, ⟨z7, rfl⟩, hr7⟩
          have HR7 := Lib.hid hr7; have hy := y1 (by omega)
          clear hr7 y1
          rcases (show y = 0 ∨ y = 1 by omega) with rfl | rfl
          · go_wp2_with fail
            have r0 : z7.val.cell? ⟨w.heap.size + 1, 0, none⟩ = some (.int .i64 0) := by go_simp
            have r1 : z7.val.cell? ⟨w.heap.size + 1, 1, none⟩ = some (.int .i64 0) := by go_simp
            have r2 : z7.val.cell? ⟨w.heap.size + 1, 2, none⟩ = some (.int .i64 0) := by go_simp
            refine bodyPost_ret (v := .agg #[.int .i64 (-1), .int .i64 c.v, .int .i64 c.g]) (by simp [results, Try.results70, go_sem, r0, r1, r2]) rfl ?_
            refine ⟨⟨(-1), c.v, c.g⟩, rfl, ExtR.of ?_, ?_⟩
            · (repeat (with_reducible refine GB.setNew ?_ (by omega) _ _))
              exact GB.upR (GB.alloc HG6.out _) z7
            · refine Rd.mono (a := lim + 3 + 1 + 1 + 1 + 1) ?_ (by omega)
              (repeat (with_reducible refine Rd.set ?_ _ _ (by omega) (by omega)))
              exact HR7.out
          · go_wp2_with fail
            have r0 : z7.val.cell? ⟨w.heap.size + 1, 0, none⟩ = some (.int .i64 0) := by go_simp
            have r1 : z7.val.cell? ⟨w.heap.size + 1, 1, none⟩ = some (.int .i64 0) := by go_simp
            have r2 : z7.val.cell? ⟨w.heap.size + 1, 2, none⟩ = some (.int .i64 0) := by go_simp
            refine bodyPost_ret (v := .agg #[.int .i64 1000003, .int .i64 c.v, .int .i64 c.g]) (by simp [results, Try.results70, go_sem, r0, r1, r2]) rfl ?_
            refine ⟨⟨1000003, c.v, c.g⟩, rfl, ExtR.of ?_, ?_⟩
            · (repeat (with_reducible refine GB.setNew ?_ (by omega) _ _))
              exact GB.upR (GB.alloc HG6.out _) z7
            · refine Rd.mono (a := lim + 3 + 1 + 1 + 1 + 1) ?_ (by omega)
              (repeat (with_reducible refine Rd.set ?_ _ _ (by omega) (by omega)))
              exact HR7.out
        · go_wp2_with fail
          refine (pick_any w0 _ rb _ 2 (HR6.out.up (by repeat (first | (with_reducible exact Ext.refl _) | (with_reducible refine Ext.up ?_ _) | (with_reducible refine Ext.alloc ?_ _) | (with_reducible refine Ext.drew ?_) | (with_reducible refine Ext.setRow ?_ (by first | exact LeS.le | exact LeS.add _ | (simp; done) | (simp; omega)) _) | (with_reducible refine Ext.setCell ?_ (by first | exact LeS.le | exact LeS.add _ | (simp; done) | (simp; omega)) _)))) (by omega) (by omega) (by omega)).mono ?_; rintro e w' ⟨y, rfl, y0, y1, _, ⟨z7, rfl⟩, hr7⟩
          have HR7 := Lib.hid hr7; have hy := y1 (by omega)
          clear hr7 y1
          rcases (show y = 0 ∨ y = 1 by omega) with rfl | rfl
          · go_wp2_with fail
            have r0 : z7.val.cell? ⟨w.heap.size + 1, 0, none⟩ = some (.int .i64 0) := by go_simp
            have r1 : z7.val.cell? ⟨w.heap.size + 1, 1, none⟩ = some (.int .i64 0) := by go_simp
            have r2 : z7.val.cell? ⟨w.heap.size + 1, 2, none⟩ = some (.int .i64 0) := by go_simp
            refine bodyPost_ret (v := .agg #[.int .i64 c.s, .int .i64 (-1), .int .i64 c.g]) (by simp [results, Try.results70, go_sem, r0, r1, r2]) rfl ?_
            refine ⟨⟨c.s, (-1), c.g⟩, rfl, ExtR.of ?_, ?_⟩
            · (repeat (with_reducible refine GB.setNew ?_ (by omega) _ _))
              exact GB.upR (GB.alloc HG6.out _) z7
            · refine Rd.mono (a := lim + 3 + 1 + 1 + 1 + 1) ?_ (by omega)
              (repeat (with_reducible refine Rd.set ?_ _ _ (by omega) (by omega)))
              exact HR7.out
          · go_wp2_with fail
            have r0 : z7.val.cell? ⟨w.heap.size + 1, 0, none⟩ = some (.int .i64 0) := by go_simp
            have r1 : z7.val.cell? ⟨w.heap.size + 1, 1, none⟩ = some (.int .i64 0) := by go_simp
            have r2 : z7.val.cell? ⟨w.heap.size + 1, 2, none⟩ = some (.int .i64 0) := by go_simp
            refine bodyPost_ret (v := .agg #[.int .i64 c.s, .int .i64 1001, .int .i64 c.g]) (by simp [results, Try.results70, go_sem, r0, r1, r2]) rfl ?_
            refine ⟨⟨c.s, 1001, c.g⟩, rfl, ExtR.of ?_, ?_⟩
            · (repeat (with_reducible refine GB.setNew ?_ (by omega) _ _))
              exact GB.upR (GB.alloc HG6.out _) z7
            · refine Rd.mono (a := lim + 3 + 1 + 1 + 1 + 1) ?_ (by omega)
              (repeat (with_reducible refine Rd.set ?_ _ _ (by omega) (by omega)))
              exact HR7.out
        · go_wp2_with fail
          refine (pick_any w0 _ rb _ 2 (HR6.out.up (by repeat (first | (with_reducible exact Ext.refl _) | (with_reducible refine Ext.up ?_ _) | (with_reducible refine Ext.alloc ?_ _) | (with_reducible refine Ext.drew ?_) | (with_reducible refine Ext.setRow ?_ (by first | exact LeS.le | exact LeS.add _ | (simp; done) | (simp; omega)) _) | (with_reducible refine Ext.setCell ?_ (by first | exact LeS.le | exact LeS.add _ | (simp; done) | (simp; omega)) _)))) (by omega) (by omega) (by omega)).mono ?_; rintro e w' ⟨y, rfl, y0, y1, _, ⟨z7, rfl⟩, hr7⟩
          have HR7 := Lib.hid hr7; have hy := y1 (by omega)
          clear hr7 y1
          rcases (show y = 0 ∨ y = 1 by omega) with rfl | rfl
          · go_wp2_with fail
            have r0 : z7.val.cell? ⟨w.heap.size + 1, 0, none⟩ = some (.int .i64 0) := by go_simp
            have r1 : z7.val.cell? ⟨w.heap.size + 1, 1, none⟩ = some (.int .i64 0) := by go_simp
            have r2 : z7.val.cell? ⟨w.heap.size + 1, 2, none⟩ = some (.int .i64 0) := by go_simp
            refine bodyPost_ret (v := .agg #[.int .i64 c.s, .int .i64 c.v, .int .i64 (-1)]) (by simp [results, Try.results70, go_sem, r0, r1, r2]) rfl ?_
            refine ⟨⟨c.s, c.v, (-1)⟩, rfl, ExtR.of ?_, ?_⟩
            · (repeat (with_reducible refine GB.setNew ?_ (by omega) _ _))
              exact GB.upR (GB.alloc HG6.out _) z7
            · refine Rd.mono (a := lim + 3 + 1 + 1 + 1 + 1) ?_ (by omega)
              (repeat (with_reducible refine Rd.set ?_ _ _ (by omega) (by omega)))
              exact HR7.out
          · go_wp2_with fail
            have r0 : z7.val.cell? ⟨w.heap.size + 1, 0, none⟩ = some (.int .i64 0) := by go_simp
            have r1 : z7.val.cell? ⟨w.heap.size + 1, 1, none⟩ = some (.int .i64 0) := by go_simp
            have r2 : z7.val.cell? ⟨w.heap.size + 1, 2, none⟩ = some (.int .i64 0) := by go_simp
            refine bodyPost_ret (v := .agg #[.int .i64 c.s, .int .i64 c.v, .int .i64 16]) (by simp [results, Try.results70, go_sem, r0, r1, r2]) rfl ?_
            refine ⟨⟨c.s, c.v, 16⟩, rfl, ExtR.of ?_, ?_⟩
            · (repeat (with_reducible refine GB.setNew ?_ (by omega) _ _))
              exact GB.upR (GB.alloc HG6.out _) z7
            · refine Rd.mono (a := lim + 3 + 1 + 1 + 1 + 1) ?_ (by omega)
              (repeat (with_reducible refine Rd.set ?_ _ _ (by omega) (by omega)))
              exact HR7.out
      obtain ⟨v1, hv1⟩ : ∃ v1 : Int, IntKind.i64.wrap (c.v + 1) = v1 := ⟨_, rfl⟩
      go_wp2_with fail
      refine (odd_any w0 _ rb _ n ((HR4.out.set (g := Cx) 1 (.int .i64 v1) (by omega) (by omega)).up (by repeat (first | (with_reducible exact Ext.refl _) | (with_reducible refine Ext.up ?_ _) | (with_reducible refine Ext.alloc ?_ _) | (with_reducible refine Ext.drew ?_) | (with_reducible refine Ext.setRow ?_ (by first | exact LeS.le | exact LeS.add _ | (simp; done) | (simp; omega)) _) | (with_reducible refine Ext.setCell ?_ (by first | exact LeS.le | exact LeS.add _ | (simp; done) | (simp; omega)) _)))) (by omega) (by omega) (by omega)).mono ?_; rintro e w' ⟨b2, rfl, _, ⟨z5, rfl⟩, hr5⟩
      have HR5 := Lib.hid hr5; have HG5 := Lib.hid (GB.upR (GB.setNew (g := Cx) HG4.out (by omega) 1 (.int .i64 v1)) z5)
      have hL5 : LtS rb z5.val := ⟨hr5.lt⟩
      clear hr5
      rcases b2 with _ | _
      · go_wp2_with fail
        have r0 : z5.val.cell? ⟨w.heap.size + 1, 0, none⟩ = some (.int .i64 0) := by go_simp
        have r1 : z5.val.cell? ⟨w.heap.size + 1, 1, none⟩ = some (.int .i64 0) := by go_simp
        have r2 : z5.val.cell? ⟨w.heap.size + 1, 2, none⟩ = some (.int .i64 0) := by go_simp
        refine bodyPost_ret (v := .agg #[.int .i64 c.s, .int .i64 v1, .int .i64 c.g]) (by simp [results, Try.results70, go_sem, r0, r1, r2]) rfl ?_
        refine ⟨⟨c.s, v1, c.g⟩, rfl, ExtR.of ?_, ?_⟩
        · (repeat (with_reducible refine GB.setNew ?_ (by omega) _ _))
          exact HG5.out
        · refine Rd.mono (a := lim + 3 + 1 + 1) ?_ (by omega)
          (repeat (with_reducible refine Rd.set ?_ _ _ (by omega) (by omega)))
          exact HR5.out
      go_wp2_with fail
      refine (pick_any w0 _ rb _ 3 (HR5.out.up (by repeat (first | (with_reducible exact Ext.refl _) | (with_reducible refine Ext.up ?_ _) | (with_reducible refine Ext.alloc ?_ _) | (with_reducible refine Ext.drew ?_) | (with_reducible refine Ext.setRow ?_ (by first | exact LeS.le | exact LeS.add _ | (simp; done) | (simp; omega)) _) | (with_reducible refine Ext.setCell ?_ (by first | exact LeS.le | exact LeS.add _ | (simp; done) | (simp; omega)) _)))) (by omega) (by omega) (by omega)).mono ?_; rintro e w' ⟨q, rfl, q0, q1, _, ⟨z6, rfl⟩, hr6⟩
      have HR6 := Lib.hid hr6; have HG6 := Lib.hid (GB.upR HG5.out z6); have hq := q1 (by omega)
      have hL6 : LtS rb z6.val := ⟨hr6.lt⟩
      clear hr6 q1
      rcases (show q = 0 ∨ q = 1 ∨ q = 2 by omega) with rfl | rfl | rfl
      · go_wp2_with fail
        refine (pick_any w0 _ rb _ 2 (HR6.out.up (by repeat (first | (with_reducible exact Ext.refl _) | (with_reducible refine Ext.up ?_ _) | (with_reducible refine Ext.alloc ?_ _) | (with_reducible refine Ext.drew ?_) | (with_reducible refine Ext.setRow ?_ (by first | exact LeS.le | exact LeS.add _ | (simp; done) | (simp; omega)) _) | (with_reducible refine Ext.setCell ?_ (by first | exact LeS.le | exact LeS.add _ | (simp; done) | (simp; omega)) _)))) (by omega) (by omega) (by omega)).mono ?_; rintro e w' ⟨y, rfl, y0, y1, _, ⟨z7, rfl⟩, hr7⟩
        have HR7 := Lib.hid hr7; have hy := y1 (by omega)
        clear hr7 y1
        rcases (show y = 0 ∨ y = 1 by omega) with rfl | rfl
        · go_wp2_with fail
          have r0 : z7.val.cell? ⟨w.heap.size + 1, 0, none⟩ = some (.int .i64 0) := by go_simp
          have r1 : z7.val.cell? ⟨w.heap.size + 1, 1, none⟩ = some (.int .i64 0) := by go_simp
          have r2 : z7.val.cell? ⟨w.heap.size + 1, 2, none⟩ = some (.int .i64 0) := by go_simp
          refine bodyPost_ret (v := .agg #[.int .i64 (-1), .int .i64 v1, .int .i64 c.g]) (by simp [results, Try.results70, go_sem, r0, r1, r2]) rfl ?_
          refine ⟨⟨(-1), v1, c.g⟩, rfl, ExtR.of ?_, ?_⟩
          · (repeat (with_reducible refine GB.setNew ?_ (by omega) _ _))
            exact GB.upR (GB.alloc HG6.out _) z7
          · refine Rd.mono (a := lim + 3 + 1 + 1 + 1 + 1) ?_ (by omega)
            (repeat (with_reducible refine Rd.set ?_ _ _ (by omega) (by omega)))
            exact HR7.out
        · go_wp2_with fail
          have r0 : z7.val.cell? ⟨w.heap.size + 1, 0, none⟩ = some (.int .i64 0) := by go_simp
          have r1 : z7.val.cell? ⟨w.heap.size + 1, 1, none⟩ = some (.int .i64 0) := by go_simp
          have r2 : z7.val.cell? ⟨w.heap.size + 1, 2, none⟩ = some (.int .i64 0) := by go_simp
          refine bodyPost_ret (v := .agg #[.int .i64 1000003, .int .i64 v1, .int .i64 c.g]) (by simp [results, Try.results70, go_sem, r0, r1, r2]) rfl ?_
          refine ⟨⟨1000003, v1, c.g⟩, rfl, ExtR.of ?_, ?_⟩
          · (repeat (with_reducible refine GB.setNew ?_ (by omega) _ _))
            exact GB.upR (GB.alloc HG6.out _) z7
          · refine Rd.mono (a := lim + 3 + 1 + 1 + 1 + 1) ?_ (by omega)
            (repeat (with_reducible refine Rd.set ?_ _ _ (by omega) (by omega)))
            exact HR7.out
      · go_wp2_with fail
        refine (pick_any w0 _ rb _ 2 (HR6.out.up (by repeat (first | (with_reducible exact Ext.refl _) | (with_reducible refine Ext.up ?_ _) | (with_reducible refine Ext.alloc ?_ _) | (with_reducible refine Ext.drew ?_) | (with_reducible refine Ext.setRow ?_ (by first | exact LeS.le | exact LeS.add _ | (simp; done) | (simp; omega)) _) | (with_reducible refine Ext.setCell ?_ (by first | exact LeS.le | exact LeS.add _ | (simp; done) | (simp; omega)) _)))) (by omega) (by omega) (by omega)).mono ?_; rintro e w' ⟨y, rfl, y0, y1, _, ⟨z7, rfl⟩, hr7⟩
        have HR7 := Lib.hid hr7; have hy := y1 (by omega)
        clear hr7 y1
        rcases (show y = 0 ∨ y = 1 by omega) with rfl | rfl
        · go_wp2_with fail
          have r0 : z7.val.cell? ⟨w.heap.size + 1, 0, none⟩ = some (.int .i64 0) := by go_simp
          have r1 : z7.val.cell? ⟨w.heap.size + 1, 1, none⟩ = some (.int .i64 0) := by go_simp
          have r2 : z7.val.cell? ⟨w.heap.size + 1, 2, none⟩ = some (.int .i64 0) := by go_simp
          refine bodyPost_ret (v := .agg #[.int .i64 c.s, .int .i64 (-1), .int .i64 c.g]) (by simp [results, Try.results70, go_sem, r0, r1, r2]) rfl ?_
          refine ⟨⟨c.s, (-1), c.g⟩, rfl, ExtR.of ?_, ?_⟩
          · (repeat (with_reducible refine GB.setNew ?_ (by omega) _ _))
            exact GB.upR (GB.alloc HG6.out _) z7
          · refine Rd.mono (a := lim + 3 + 1 + 1 + 1 + 1) ?_ (by omega)
            (repeat (with_reducible refine Rd.set ?_ _ _ (by omega) (by omega)))
            exact HR7.out
        · go_wp2_with fail
          have r0 : z7.val.cell? ⟨w.heap.size + 1, 0, none⟩ = some (.int .i64 0) := by go_simp
          have r1 : z7.val.cell? ⟨w.heap.size + 1, 1, none⟩ = some (.int .i64 0) := by go_simp
          have r2 : z7.val.cell? ⟨w.heap.size + 1, 2, none⟩ = some (.int .i64 0) := by go_simp
          refine bodyPost_ret (v := .agg #[.int .i64 c.s, .int .i64 1001, .int .i64 c.g]) (by simp [results, Try.results70, go_sem, r0, r1, r2]) rfl ?_
          refine ⟨⟨c.s, 1001, c.g⟩, rfl, ExtR.of ?_, ?_⟩
          · (repeat (with_reducible refine GB.setNew ?_ (by omega) _ _))
            exact GB.upR (GB.alloc HG6.out _) z7
          · refine Rd.mono (a := lim + 3 + 1 + 1 + 1 + 1) ?_ (by omega)
            (repeat (with_reducible refine Rd.set ?_ _ _ (by omega) (by omega)))
            exact HR7.out
      · go_wp2_with fail
        refine (pick_any w0 _ rb _ 2 (HR6.out.up (by repeat (first | (with_reducible exact Ext.refl _) | (with_reducible refine Ext.up ?_ _) | (with_reducible refine Ext.alloc ?_ _) | (with_reducible refine Ext.drew ?_) | (with_reducible refine Ext.setRow ?_ (by first | exact LeS.le | exact LeS.add _ | (simp; done) | (simp; omega)) _) | (with_reducible refine Ext.setCell ?_ (by first | exact LeS.le | exact LeS.add _ | (simp; done) | (simp; omega)) _)))) (by omega) (by omega) (by omega)).mono ?_; rintro e w' ⟨y, rfl, y0, y1, _, ⟨z7, rfl⟩, hr7⟩
        have HR7 := Lib.hid hr7; have hy := y1 (by omega)
        clear hr7 y1
        rcases (show y = 0 ∨ y = 1 by omega) with rfl | rfl
        · go_wp2_with fail
          have r0 : z7.val.cell? ⟨w.heap.size + 1, 0, none⟩ = some (.int .i64 0) := by go_simp
          have r1 : z7.val.cell? ⟨w.heap.size + 1, 1, none⟩ = some (.int .i64 0) := by go_simp
          have r2 : z7.val.cell? ⟨w.heap.size + 1, 2, none⟩ = some (.int .i64 0) := by go_simp
          refine bodyPost_ret (v := .agg #[.int .i64 c.s, .int .i64 v1, .int .i64 (-1)]) (by simp [results, Try.results70, go_sem, r0, r1, r2]) rfl ?_
          refine ⟨⟨c.s, v1, (-1)⟩, rfl, ExtR.of ?_, ?_⟩
          · (repeat (with_reducible refine GB.setNew ?_ (by omega) _ _))
            exact GB.upR (GB.alloc HG6.out _) z7
          · refine Rd.mono (a := lim + 3 + 1 + 1 + 1 + 1) ?_ (by omega)
            (repeat (with_reducible refine Rd.set ?_ _ _ (by omega) (by omega)))
            exact HR7.out
        · go_wp2_with fail
          have r0 : z7.val.cell? ⟨w.heap.size + 1, 0, none⟩ = some (.int .i64 0) := by go_simp
          have r1 : z7.val.cell? ⟨w.heap.size + 1, 1, none⟩ = some (.int .i64 0) := by go_simp
          have r2 : z7.val.cell? ⟨w.heap.size + 1, 2, none⟩ = some (.int .i64 0) := by go_simp
          refine bodyPost_ret (v := .agg #[.int .i64 c.s, .int .i64 v1, .int .i64 16]) (by simp [results, Try.results70, go_sem, r0, r1, r2]) rfl ?_
          refine ⟨⟨c.s, v1, 16⟩, rfl, ExtR.of ?_, ?_⟩
          · (repeat (with_reducible refine GB.setNew ?_ (by omega) _ _))
            exact GB.upR (GB.alloc HG6.out _) z7
          · refine Rd.mono (a := lim + 3 + 1 + 1 + 1 + 1) ?_ (by omega)
            (repeat (with_reducible refine Rd.set ?_ _ _ (by omega) (by omega)))
            exact HR7.out
end Go.Proofs.Ytphkimbhjfjjkaa
