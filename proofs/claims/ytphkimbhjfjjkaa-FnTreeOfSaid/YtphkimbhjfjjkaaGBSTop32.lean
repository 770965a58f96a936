/- Walks: drawn trees with a number: l20At, DrawPathTo, DrawIsBefore. Plain laws: levels of actions. Walks: FnExactLevelsOf: levels of actions. The law FnLevelsOf's walk, and its plain law. -/
import Derived.Test.YtphkimbhjfjjkaaGBSTop30
import Derived.Test.YtphkimbhjfjjkaaGBSTop25
import Derived.Test.YtphkimbhjfjjkaaGBSTop01
import Derived.Test.YtphkimbhjfjjkaaGBSTop05
import Derived.Test.YtphkimbhjfjjkaaGBSTop08
set_option linter.unusedSimpArgs false
set_option linter.unusedVariables false
namespace Go.Proofs.Ytphkimbhjfjjkaa
open Go Go.RowKit Go.Proofs

set_option maxRecDepth 100000 in
set_option maxHeartbeats 4000000 in
theorem at_any (w0 w : World) (rb : Nat) (lim n : Int) (h : Rd w0 w rb lim) (hl : lim ≤ 1000) (hn0 : 0 ≤ n) (hnm : n ≤ 1000000) :
    Calls Try.prog 91 #[.pointer (some ⟨rb, 0, none⟩), .int .i64 n] w fun e w' => ∃ (u0 u1 u2 : Value) (t : Tree) (bs : List TB) (k : Int), e = .returned (.tuple #[.agg #[u0, u1, u2], .int .i64 k]) ∧ (1 ≤ t.bs.length ∧ t.bs.length ≤ 14) ∧ bs.map TB.core = t.bs ∧ (∃ z : ExtR rb w, w' = z.val) ∧ Rd w0 w' rb (lim + 5950) ∧ OTA 75 27 71 3 w.heap.size w' u0 u1 u2 t.base bs t.pr := by
  have H := Lib.hid h
  have hL : LtS rb w := ⟨h.lt⟩
  have hlt := h.lt
  have hold := h.old
  have hLe : w0.heap.size ≤ w.heap.size := h.ext.size
  have hRr : NeS w.heap.size rb := ⟨by omega⟩
  clear h
  go_enter Try.func91, Try.ntmps91
  go_wp2_with fail
  refine (tree_any w0 _ rb lim n (H.out.up (by repeat (first | (with_reducible exact Ext.refl _) | (with_reducible refine Ext.up ?_ _) | (with_reducible refine Ext.alloc ?_ _) | (with_reducible refine Ext.drew ?_) | (with_reducible refine Ext.setRow ?_ (by first | exact LeS.le | exact LeS.add _ | (simp; done) | (simp; omega)) _) | (with_reducible refine Ext.setCell ?_ (by first | exact LeS.le | exact LeS.add _ | (simp; done) | (simp; omega)) _)))) (by omega) (by omega) (by omega)).mono ?_; rintro e w' ⟨u0, u1, u2, t, bs, rfl, _, hbl, hc, ⟨z1, rfl⟩, hr1, ho⟩
  obtain ⟨p0, c0, rfl, _, _⟩ := (ho.obase.sl Ent.enc_length).openc
  obtain ⟨p1, c1, rfl, _, _⟩ := (ho.obs.1.sl TB.enc_length).openc
  obtain ⟨p2, c2, rfl, _, _⟩ := (ho.opr.sl encI_length).openc
  have hlen : bs.length = t.bs.length := by rw [← hc, List.length_map]
  have hb1 : 1 ≤ bs.length := by omega
  have hb14 : bs.length ≤ 14 := by omega
  have HB := Lib.hid hbl; have HC := Lib.hid hc
  have HR1 := Lib.hid hr1; have HO := Lib.hid ho
  have h1 := z1.grown.size
  simp at h1
  have hL1 : LtS rb z1.val := ⟨hr1.lt⟩
  have hG : NeS z1.val.heap.size rb := ⟨by omega⟩
  have hGR : NeS z1.val.heap.size w.heap.size := ⟨by omega⟩
  have hRG : NeS w.heap.size z1.val.heap.size := ⟨by omega⟩
  clear hr1 ho hc hlen hbl
  go_upto_region 2 with fail
  refine wp_region_held_drew (S := (fun w' => ∀ n i, ∀ [LtS n (z1.val.alloc (.cells #[.slice p0 t.base.length c0, .slice p1 bs.length c1, .slice p2 t.pr.length c2] 42))] [NeS n rb] [NeS n w.heap.size], w'.cell? ⟨n, i, none⟩ = World.cell? (z1.val.alloc (.cells #[.slice p0 t.base.length c0, .slice p1 bs.length c1, .slice p2 t.pr.length c2] 42)) ⟨n, i, none⟩)) (by kernel_rfl) ?_ (fun hHeld => ?_)
  · (try dsimp only)
    (first | (refine S_of_gbX (rb := rb) (G := w.heap.size) ?_; (repeat (first | (with_reducible exact grownBy_refl _ _) | (with_reducible refine GB.setNew ?_ (by first | exact LeS.le | exact LeS.add _ | (simp; done) | (simp; omega)) _ _) | (with_reducible refine GB.alloc ?_ _) | (with_reducible refine GB.drew ?_) | (with_reducible refine GB.upR ?_ _) | (with_reducible refine GB.up ?_ _))); done) | (intro n i hnl hnr hng; simp only [cell_setX]; exact S_of_gbX (rb := rb) (G := w.heap.size) (by repeat (first | (with_reducible exact grownBy_refl _ _) | (with_reducible refine GB.setNew ?_ (by first | exact LeS.le | exact LeS.add _ | (simp; done) | (simp; omega)) _ _) | (with_reducible refine GB.alloc ?_ _) | (with_reducible refine GB.drew ?_) | (with_reducible refine GB.upR ?_ _) | (with_reducible refine GB.up ?_ _))) n i))
  refine wpAnyH_take (i := 0) (v := ?_) (opAt rfl) (by kernel_rfl) (by kernel_rfl) (by kernel_rfl) (fun _ _ _ h => h) (Or.inl ⟨by rfl, ?_⟩) (by assumption) ?_
  rotate_left
  · (intro w hSw; (try dsimp only at hSw); go_simp) <;> with_reducible rfl
  try simp only [Act.put, List.setIfInBounds_toArray, List.set_cons_zero, List.set_cons_succ]
  refine wpAnyH_take (i := 1) (v := ?_) (opAt rfl) (by kernel_rfl) (by kernel_rfl) (by kernel_rfl) (fun _ _ _ h => h) (Or.inl ⟨by rfl, ?_⟩) (by assumption) ?_
  rotate_left
  · (intro w hSw; (try dsimp only at hSw); go_simp) <;> with_reducible rfl
  try simp only [Act.put, List.setIfInBounds_toArray, List.set_cons_zero, List.set_cons_succ]
  refine wpAnyH_take (i := 2) (v := ?_) (opAt rfl) (by kernel_rfl) (by kernel_rfl) (by kernel_rfl) (fun _ _ _ h => h) (Or.inl ⟨by rfl, ?_⟩) (by assumption) ?_
  rotate_left
  · (intro w hSw; (try dsimp only at hSw); go_simp) <;> with_reducible rfl
  try simp only [Act.put, List.setIfInBounds_toArray, List.set_cons_zero, List.set_cons_succ]
  refine wpAnyH_take (i := 3) (v := ?_) (opAt rfl) (by kernel_rfl) (by kernel_rfl) (by kernel_rfl) (fun _ _ _ h => h) (Or.inl ⟨by rfl, ?_⟩) (by assumption) ?_
  rotate_left
  · (intro w hSw; (try dsimp only at hSw); go_simp) <;> with_reducible rfl
  try simp only [Act.put, List.setIfInBounds_toArray, List.set_cons_zero, List.set_cons_succ]
  refine wpAnyH_take (i := 4) (v := ?_) (opAt rfl) (by kernel_rfl) (by kernel_rfl) (by kernel_rfl) (fun _ _ _ h => h) (Or.inl ⟨by rfl, ?_⟩) (by assumption) ?_
  rotate_left
  · (intro w hSw; (try dsimp only at hSw); go_simp) <;> with_reducible rfl
  try simp only [Act.put, List.setIfInBounds_toArray, List.set_cons_zero, List.set_cons_succ]
  refine wpAnyH_take (i := 6) (v := ?_) (opAt rfl) (by kernel_rfl) (by kernel_rfl) (by kernel_rfl) (fun _ _ _ h => h) (Or.inl ⟨by rfl, ?_⟩) (by assumption) ?_
  rotate_left
  · (intro w hSw; (try dsimp only at hSw); go_simp) <;> with_reducible rfl
  try simp only [Act.put, List.setIfInBounds_toArray, List.set_cons_zero, List.set_cons_succ]
  refine wpAnyH_take (i := 11) (v := ?_) (opAt rfl) (by kernel_rfl) (by kernel_rfl) (by kernel_rfl) (fun _ _ _ h => h) (Or.inl ⟨by rfl, ?_⟩) (by assumption) ?_
  rotate_left
  · (intro w hSw; (try dsimp only at hSw); go_simp) <;> with_reducible rfl
  try simp only [Act.put, List.setIfInBounds_toArray, List.set_cons_zero, List.set_cons_succ]
  refine wpAnyH_ready (rs := [5]) (by kernel_rfl) (by simp) ?_
  refine AllReadyH.cons (opAt rfl) (fun K hK => ?_) ?_
  · go_simp
    (go_at_call 87; (with_reducible refine (pick_any w0 _ rb _ (bs.length : Int) (HR1.out.up (by repeat (first | (with_reducible exact Ext.refl _) | (with_reducible refine Ext.up ?_ _) | (with_reducible refine Ext.alloc ?_ _) | (with_reducible refine Ext.drew ?_) | (with_reducible refine Ext.setRow ?_ (by first | exact LeS.le | exact LeS.add _ | (simp; done) | (simp; omega)) _) | (with_reducible refine Ext.setCell ?_ (by first | exact LeS.le | exact LeS.add _ | (simp; done) | (simp; omega)) _)))) (by omega) (by omega) (by omega)).mono ?_); rintro e w' ⟨q, rfl, _, _, _, ⟨z2, rfl⟩, hr2⟩; have HR2 := Lib.hid hr2; clear hr2)
    try go_wp2_with fail
    refine hK.out _ _ ?_ (fun hHeld1 => ?_)
    · (try dsimp only)
      (first | (refine S_of_gbX (rb := rb) (G := w.heap.size) ?_; (repeat (first | (with_reducible exact grownBy_refl _ _) | (with_reducible refine GB.setNew ?_ (by first | exact LeS.le | exact LeS.add _ | (simp; done) | (simp; omega)) _ _) | (with_reducible refine GB.alloc ?_ _) | (with_reducible refine GB.drew ?_) | (with_reducible refine GB.upR ?_ _) | (with_reducible refine GB.up ?_ _))); done) | (intro n i hnl hnr hng; simp only [cell_setX]; exact S_of_gbX (rb := rb) (G := w.heap.size) (by repeat (first | (with_reducible exact grownBy_refl _ _) | (with_reducible refine GB.setNew ?_ (by first | exact LeS.le | exact LeS.add _ | (simp; done) | (simp; omega)) _ _) | (with_reducible refine GB.alloc ?_ _) | (with_reducible refine GB.drew ?_) | (with_reducible refine GB.upR ?_ _) | (with_reducible refine GB.up ?_ _))) n i))
    clear hK K hHeld
    have hHeld := hHeld1; clear hHeld1
    try simp only [Act.put, List.setIfInBounds_toArray, List.set_cons_zero, List.set_cons_succ]
    refine wpAnyH_ready (rs := [7]) (by kernel_rfl) (by simp) ?_
    refine AllReadyH.cons (opAt rfl) (fun K hK => ?_) ?_
    · go_simp
      (go_at_call 87; (with_reducible refine (pick_any w0 _ rb _ 12 (HR2.out.up (by repeat (first | (with_reducible exact Ext.refl _) | (with_reducible refine Ext.up ?_ _) | (with_reducible refine Ext.alloc ?_ _) | (with_reducible refine Ext.drew ?_) | (with_reducible refine Ext.setRow ?_ (by first | exact LeS.le | exact LeS.add _ | (simp; done) | (simp; omega)) _) | (with_reducible refine Ext.setCell ?_ (by first | exact LeS.le | exact LeS.add _ | (simp; done) | (simp; omega)) _)))) (by omega) (by omega) (by omega)).mono ?_); rintro e w' ⟨a, rfl, _, _, _, ⟨z3, rfl⟩, hr3⟩; have HR3 := Lib.hid hr3; clear hr3; obtain ⟨a1, ha1'⟩ : ∃ a1 : Int, IntKind.i64.wrap (a.tdiv 11) = a1 := ⟨_, rfl⟩; obtain ⟨a2, ha2'⟩ : ∃ a2 : Int, IntKind.i64.wrap (a1 * 20) = a2 := ⟨_, rfl⟩; obtain ⟨a3, ha3'⟩ : ∃ a3 : Int, IntKind.i64.wrap (q + a2) = a3 := ⟨_, rfl⟩)
      try go_wp2_with fail
      refine hK.out _ _ ?_ (fun hHeld1 => ?_)
      · (try dsimp only)
        (first | (refine S_of_gbX (rb := rb) (G := w.heap.size) ?_; (repeat (first | (with_reducible exact grownBy_refl _ _) | (with_reducible refine GB.setNew ?_ (by first | exact LeS.le | exact LeS.add _ | (simp; done) | (simp; omega)) _ _) | (with_reducible refine GB.alloc ?_ _) | (with_reducible refine GB.drew ?_) | (with_reducible refine GB.upR ?_ _) | (with_reducible refine GB.up ?_ _))); done) | (intro n i hnl hnr hng; simp only [cell_setX]; exact S_of_gbX (rb := rb) (G := w.heap.size) (by repeat (first | (with_reducible exact grownBy_refl _ _) | (with_reducible refine GB.setNew ?_ (by first | exact LeS.le | exact LeS.add _ | (simp; done) | (simp; omega)) _ _) | (with_reducible refine GB.alloc ?_ _) | (with_reducible refine GB.drew ?_) | (with_reducible refine GB.upR ?_ _) | (with_reducible refine GB.up ?_ _))) n i))
      clear hK K hHeld
      have hHeld := hHeld1; clear hHeld1
      try simp only [Act.put, List.setIfInBounds_toArray, List.set_cons_zero, List.set_cons_succ]
      refine wpAnyH_take (i := 8) (v := ?_) (opAt rfl) (by kernel_rfl) (by kernel_rfl) (by kernel_rfl) (fun _ _ _ h => h) (Or.inl ⟨by rfl, ?_⟩) (by assumption) ?_
      rotate_left
      · (intro w hSw; (try dsimp only at hSw); go_simp) <;> with_reducible rfl
      try simp only [Act.put, List.setIfInBounds_toArray, List.set_cons_zero, List.set_cons_succ]
      refine wpAnyH_take (i := 9) (v := ?_) (opAt rfl) (by kernel_rfl) (by kernel_rfl) (by kernel_rfl) (fun _ _ _ h => h) (Or.inl ⟨by rfl, ?_⟩) (by assumption) ?_
      rotate_left
      · (intro w hSw; (try dsimp only at hSw); go_simp) <;> with_reducible rfl
      try simp only [Act.put, List.setIfInBounds_toArray, List.set_cons_zero, List.set_cons_succ]
      refine wpAnyH_take (i := 10) (v := ?_) (opAt rfl) (by kernel_rfl) (by kernel_rfl) (by kernel_rfl) (fun _ _ _ h => h) (Or.inl ⟨by rfl, ?_⟩) (by assumption) ?_
      rotate_left
      · (intro w hSw; (try dsimp only at hSw); go_simp) <;> with_reducible rfl
      try simp only [Act.put, List.setIfInBounds_toArray, List.set_cons_zero, List.set_cons_succ]
      refine wpAnyH_ready (rs := [12]) (by kernel_rfl) (by simp) ?_
      refine AllReadyH.cons (opAt rfl) (fun K hK => ?_) ?_
      · go_simp
        (go_at_call 87; (with_reducible refine (pick_any w0 _ rb _ 12 (HR3.out.up (by repeat (first | (with_reducible exact Ext.refl _) | (with_reducible refine Ext.up ?_ _) | (with_reducible refine Ext.alloc ?_ _) | (with_reducible refine Ext.drew ?_) | (with_reducible refine Ext.setRow ?_ (by first | exact LeS.le | exact LeS.add _ | (simp; done) | (simp; omega)) _) | (with_reducible refine Ext.setCell ?_ (by first | exact LeS.le | exact LeS.add _ | (simp; done) | (simp; omega)) _)))) (by omega) (by omega) (by omega)).mono ?_); rintro e w' ⟨b, rfl, _, _, _, ⟨z4, rfl⟩, hr4⟩; have HR4 := Lib.hid hr4; clear hr4; obtain ⟨b1, hb1'⟩ : ∃ b1 : Int, IntKind.i64.wrap (b.tdiv 11) = b1 := ⟨_, rfl⟩; obtain ⟨b2, hb2'⟩ : ∃ b2 : Int, IntKind.i64.wrap (b1 * 40) = b2 := ⟨_, rfl⟩; obtain ⟨b3, hb3'⟩ : ∃ b3 : Int, IntKind.i64.wrap (a3 - b2) = b3 := ⟨_, rfl⟩)
        try go_wp2_with fail
        refine hK.out _ _ ?_ (fun hHeld1 => ?_)
        · (try dsimp only)
          (first | (refine S_of_gbX (rb := rb) (G := w.heap.size) ?_; (repeat (first | (with_reducible exact grownBy_refl _ _) | (with_reducible refine GB.setNew ?_ (by first | exact LeS.le | exact LeS.add _ | (simp; done) | (simp; omega)) _ _) | (with_reducible refine GB.alloc ?_ _) | (with_reducible refine GB.drew ?_) | (with_reducible refine GB.upR ?_ _) | (with_reducible refine GB.up ?_ _))); done) | (intro n i hnl hnr hng; simp only [cell_setX]; exact S_of_gbX (rb := rb) (G := w.heap.size) (by repeat (first | (with_reducible exact grownBy_refl _ _) | (with_reducible refine GB.setNew ?_ (by first | exact LeS.le | exact LeS.add _ | (simp; done) | (simp; omega)) _ _) | (with_reducible refine GB.alloc ?_ _) | (with_reducible refine GB.drew ?_) | (with_reducible refine GB.upR ?_ _) | (with_reducible refine GB.up ?_ _))) n i))
        clear hK K hHeld
        have hHeld := hHeld1; clear hHeld1
        try simp only [Act.put, List.setIfInBounds_toArray, List.set_cons_zero, List.set_cons_succ]
        refine wpAnyH_take (i := 13) (v := ?_) (opAt rfl) (by kernel_rfl) (by kernel_rfl) (by kernel_rfl) (fun _ _ _ h => h) (Or.inl ⟨by rfl, ?_⟩) (by assumption) ?_
        rotate_left
        · (intro w hSw; (try dsimp only at hSw); go_simp) <;> with_reducible rfl
        try simp only [Act.put, List.setIfInBounds_toArray, List.set_cons_zero, List.set_cons_succ]
        refine wpAnyH_take (i := 14) (v := ?_) (opAt rfl) (by kernel_rfl) (by kernel_rfl) (by kernel_rfl) (fun _ _ _ h => h) (Or.inl ⟨by rfl, ?_⟩) (by assumption) ?_
        rotate_left
        · (intro w hSw; (try dsimp only at hSw); go_simp) <;> with_reducible rfl
        try simp only [Act.put, List.setIfInBounds_toArray, List.set_cons_zero, List.set_cons_succ]
        refine wpAnyH_take (i := 15) (v := ?_) (opAt rfl) (by kernel_rfl) (by kernel_rfl) (by kernel_rfl) (fun _ _ _ h => h) (Or.inl ⟨by rfl, ?_⟩) (by assumption) ?_
        rotate_left
        · (intro w hSw; (try dsimp only at hSw); go_simp) <;> with_reducible rfl
        try simp only [Act.put, List.setIfInBounds_toArray, List.set_cons_zero, List.set_cons_succ]
        refine wpAnyH_ready (rs := [16]) (by kernel_rfl) (by simp) ?_
        refine AllReadyH.cons (opAt rfl) (fun K hK => ?_) ?_
        · go_simp
          refine hK.out _ _ ?_ (fun hHeld1 => ?_)
          · (try dsimp only)
            (first | (refine S_of_gbX (rb := rb) (G := w.heap.size) ?_; (repeat (first | (with_reducible exact grownBy_refl _ _) | (with_reducible refine GB.setNew ?_ (by first | exact LeS.le | exact LeS.add _ | (simp; done) | (simp; omega)) _ _) | (with_reducible refine GB.alloc ?_ _) | (with_reducible refine GB.drew ?_) | (with_reducible refine GB.upR ?_ _) | (with_reducible refine GB.up ?_ _))); done) | (intro n i hnl hnr hng; simp only [cell_setX]; exact S_of_gbX (rb := rb) (G := w.heap.size) (by repeat (first | (with_reducible exact grownBy_refl _ _) | (with_reducible refine GB.setNew ?_ (by first | exact LeS.le | exact LeS.add _ | (simp; done) | (simp; omega)) _ _) | (with_reducible refine GB.alloc ?_ _) | (with_reducible refine GB.drew ?_) | (with_reducible refine GB.upR ?_ _) | (with_reducible refine GB.up ?_ _))) n i))
          clear hK K hHeld
          have hHeld := hHeld1; clear hHeld1
          try simp only [Act.put, List.setIfInBounds_toArray, List.set_cons_zero, List.set_cons_succ]
          refine wpAnyH_take (i := 17) (v := ?_) (opAt rfl) (by kernel_rfl) (by kernel_rfl) (by kernel_rfl) (fun _ _ _ h => h) (Or.inl ⟨by rfl, ?_⟩) (by assumption) ?_
          rotate_left
          · (intro w hSw; (try dsimp only at hSw); go_simp) <;> with_reducible rfl
          try simp only [Act.put, List.setIfInBounds_toArray, List.set_cons_zero, List.set_cons_succ]
          refine wpAnyH_done (by kernel_rfl) ?_ _
          have r0 : z4.val.cell? ⟨w.heap.size, 0, none⟩ = some (.slice none 0 0) := by go_simp
          have r1 : z4.val.cell? ⟨w.heap.size, 1, none⟩ = some (.slice none 0 0) := by go_simp
          have r2 : z4.val.cell? ⟨w.heap.size, 2, none⟩ = some (.slice none 0 0) := by go_simp
          have h2 := z2.grown.size
          have h3 := z3.grown.size
          simp at h2 h3
          have HO4 := Lib.hid ((((HO.out.up (w' := (z1.val.alloc (.cells #[.slice p0 t.base.length c0, .slice p1 bs.length c1, .slice p2 t.pr.length c2] 42)).drew) (by repeat (first | (with_reducible exact Ext.refl _) | (with_reducible refine Ext.up ?_ _) | (with_reducible refine Ext.alloc ?_ _) | (with_reducible refine Ext.drew ?_) | (with_reducible refine Ext.setRow ?_ (by first | exact LeS.le | exact LeS.add _ | (simp; done) | (simp; omega)) _) | (with_reducible refine Ext.setCell ?_ (by first | exact LeS.le | exact LeS.add _ | (simp; done) | (simp; omega)) _)))).upR (by simp; omega) z2).upR (by simp; omega) z3).upR (by simp; omega) z4)
          have HG4 := Lib.hid (GB.upR (GB.upR (GB.upR (GB.drew (GB.alloc (GB.upR (GB.alloc (grownBy_refl w (some rb)) _) z1) (.cells #[.slice p0 t.base.length c0, .slice p1 bs.length c1, .slice p2 t.pr.length c2] 42))) z2) z3) z4)
          go_wp2_with fail
          refine bodyPost_ret (v := .tuple #[.agg #[.slice p0 t.base.length c0, .slice p1 bs.length c1, .slice p2 t.pr.length c2], .int .i64 b3]) (by simp [results, Try.results91, go_sem, r0, r1, r2]) rfl ?_
          refine ⟨_, _, _, t, bs, b3, rfl, HB.out, HC.out, ExtR.of ?_, ?_, ?_⟩
          · (repeat (with_reducible refine GB.setNew ?_ (by omega) _ _))
            exact HG4.out
          · refine Rd.mono (a := lim + 5900 + 1 + 1 + 1) ?_ (by omega)
            (repeat (with_reducible refine Rd.set ?_ _ _ (by omega) (by omega)))
            exact HR4.out
          · exact ((((HO4.out.lo (lo' := w.heap.size + 1) (by simp)).setOld _ _ (by show w.heap.size < _; omega)).setOld _ _ (by show w.heap.size < _; omega)).setOld _ _ (by show w.heap.size < _; omega)).lo (by omega)
        exact AllReadyH.nil
      exact AllReadyH.nil
    exact AllReadyH.nil
  exact AllReadyH.nil
set_option maxRecDepth 100000 in
set_option maxHeartbeats 4000000 in
theorem drawIsBefore_any (bs : List Int) (v : Value) (w : World) (h : SL (RF encU) 1 w v bs) (hb : ∀ b ∈ bs, 0 ≤ b ∧ b ≤ 255) :
    Calls Try.prog 50 #[v] w fun e w' => ∃ (v0 v1 v2 : Value) (t : Tree) (k m : Int), e = .returned (.tuple #[.agg #[v0, v1, v2], .int .i64 k, .int .i64 m]) ∧ Up w w' ∧ ST w' v0 v1 v2 t := by
  have H := Lib.hid h; clear h
  go_enter Try.func50, Try.ntmps50
  go_wp2_with fail
  refine (open_any bs v _ (H.out.up (by repeat (first | (with_reducible exact Ext.refl _) | (with_reducible refine Ext.up ?_ _) | (with_reducible refine Ext.alloc ?_ _) | (with_reducible refine Ext.drew ?_) | (with_reducible refine Ext.setRow ?_ (by first | exact LeS.le | exact LeS.add _ | (simp; done) | (simp; omega)) _) | (with_reducible refine Ext.setCell ?_ (by first | exact LeS.le | exact LeS.add _ | (simp; done) | (simp; omega)) _)))) hb).mono ?_; rintro e w' ⟨rb, rfl, ⟨z0, rfl⟩, hr⟩
  have H0 := Lib.hid hr
  have Hold := Lib.hid hr.old
  have hold := hr.old
  have hz := z0.ext.size
  simp at hz hold
  clear hr
  go_wp2_with fail
  refine (at_any _ _ rb 0 14 H0.out (by omega) (by omega) (by omega)).mono ?_; rintro e w' ⟨u0, u1, u2, t, bs, k, rfl, hbl, hc, ⟨z1, rfl⟩, hr1, ho⟩
  obtain ⟨p0, c0, rfl, _, _⟩ := (ho.obase.sl Ent.enc_length).openc
  obtain ⟨p1, c1, rfl, _, _⟩ := (ho.obs.1.sl TB.enc_length).openc
  obtain ⟨p2, c2, rfl, _, _⟩ := (ho.opr.sl encI_length).openc
  have hlen : bs.length = t.bs.length := by rw [← hc, List.length_map]
  have hb1 : 1 ≤ bs.length := by omega
  have hb14 : bs.length ≤ 14 := by omega
  have hw : IntKind.i64.wrap ((bs.length : Int) + 1) = (bs.length : Int) + 1 := IntWalk.i64_in _ (by omega)
  have HC := Lib.hid hc
  have HR1 := Lib.hid hr1; have HO := Lib.hid ho
  have h1 := z1.grown.size
  have hlt := hr1.lt
  have hlt0 := H0.out.lt
  have hL1 : LtS rb z1.val := ⟨hr1.lt⟩
  have hRr : NeS w.heap.size rb := ⟨by omega⟩
  have hG : NeS z1.val.heap.size rb := ⟨by omega⟩
  have hGR : NeS z1.val.heap.size w.heap.size := ⟨by omega⟩
  have hRG : NeS w.heap.size z1.val.heap.size := ⟨by omega⟩
  have hLw : LtS w.heap.size z1.val := ⟨by omega⟩
  clear hr1 ho hc hlen hbl
  go_upto_region 3 with fail
  refine wp_region_held_drew (S := (fun w' => ∀ n i, ∀ [LtS n (z1.val.alloc (.cells #[.slice p0 t.base.length c0, .slice p1 bs.length c1, .slice p2 t.pr.length c2] 42))] [NeS n rb] [NeS n w.heap.size], w'.cell? ⟨n, i, none⟩ = World.cell? (z1.val.alloc (.cells #[.slice p0 t.base.length c0, .slice p1 bs.length c1, .slice p2 t.pr.length c2] 42)) ⟨n, i, none⟩)) (by kernel_rfl) ?_ (fun hHeld => ?_)
  · (try dsimp only)
    (first | (refine S_of_gbX (rb := rb) (G := w.heap.size) ?_; (repeat (first | (with_reducible exact grownBy_refl _ _) | (with_reducible refine GB.setNew ?_ (by first | exact LeS.le | exact LeS.add _ | (simp; done) | (simp; omega)) _ _) | (with_reducible refine GB.alloc ?_ _) | (with_reducible refine GB.drew ?_) | (with_reducible refine GB.upR ?_ _) | (with_reducible refine GB.up ?_ _))); done) | (intro n i hnl hnr hng; simp only [cell_setX]; exact S_of_gbX (rb := rb) (G := w.heap.size) (by repeat (first | (with_reducible exact grownBy_refl _ _) | (with_reducible refine GB.setNew ?_ (by first | exact LeS.le | exact LeS.add _ | (simp; done) | (simp; omega)) _ _) | (with_reducible refine GB.alloc ?_ _) | (with_reducible refine GB.drew ?_) | (with_reducible refine GB.upR ?_ _) | (with_reducible refine GB.up ?_ _))) n i))
  refine wpAnyH_take (i := 0) (v := ?_) (opAt rfl) (by kernel_rfl) (by kernel_rfl) (by kernel_rfl) (fun _ _ _ h => h) (Or.inl ⟨by rfl, ?_⟩) (by assumption) ?_
  rotate_left
  · (intro w hSw; (try dsimp only at hSw); go_simp) <;> with_reducible rfl
  try simp only [Act.put, List.setIfInBounds_toArray, List.set_cons_zero, List.set_cons_succ]
  refine wpAnyH_take (i := 1) (v := ?_) (opAt rfl) (by kernel_rfl) (by kernel_rfl) (by kernel_rfl) (fun _ _ _ h => h) (Or.inl ⟨by rfl, ?_⟩) (by assumption) ?_
  rotate_left
  · (intro w hSw; (try dsimp only at hSw); go_simp) <;> with_reducible rfl
  try simp only [Act.put, List.setIfInBounds_toArray, List.set_cons_zero, List.set_cons_succ]
  refine wpAnyH_take (i := 2) (v := ?_) (opAt rfl) (by kernel_rfl) (by kernel_rfl) (by kernel_rfl) (fun _ _ _ h => h) (Or.inl ⟨by rfl, ?_⟩) (by assumption) ?_
  rotate_left
  · (intro w hSw; (try dsimp only at hSw); go_simp) <;> with_reducible rfl
  try simp only [Act.put, List.setIfInBounds_toArray, List.set_cons_zero, List.set_cons_succ]
  refine wpAnyH_take (i := 3) (v := ?_) (opAt rfl) (by kernel_rfl) (by kernel_rfl) (by kernel_rfl) (fun _ _ _ h => h) (Or.inl ⟨by rfl, ?_⟩) (by assumption) ?_
  rotate_left
  · (intro w hSw; (try dsimp only at hSw); go_simp) <;> with_reducible rfl
  try simp only [Act.put, List.setIfInBounds_toArray, List.set_cons_zero, List.set_cons_succ]
  refine wpAnyH_take (i := 4) (v := ?_) (opAt rfl) (by kernel_rfl) (by kernel_rfl) (by kernel_rfl) (fun _ _ _ h => h) (Or.inl ⟨by rfl, ?_⟩) (by assumption) ?_
  rotate_left
  · (intro w hSw; (try dsimp only at hSw); go_simp) <;> with_reducible rfl
  try simp only [Act.put, List.setIfInBounds_toArray, List.set_cons_zero, List.set_cons_succ]
  refine wpAnyH_take (i := 5) (v := ?_) (opAt rfl) (by kernel_rfl) (by kernel_rfl) (by kernel_rfl) (fun _ _ _ h => h) (Or.inl ⟨by rfl, ?_⟩) (by assumption) ?_
  rotate_left
  · (intro w hSw; (try dsimp only at hSw); go_simp) <;> with_reducible rfl
  try simp only [Act.put, List.setIfInBounds_toArray, List.set_cons_zero, List.set_cons_succ]
  refine wpAnyH_take (i := 6) (v := ?_) (opAt rfl) (by kernel_rfl) (by kernel_rfl) (by kernel_rfl) (fun _ _ _ h => h) (Or.inl ⟨by rfl, ?_⟩) (by assumption) ?_
  rotate_left
  · (intro w hSw; (try dsimp only at hSw); go_simp) <;> with_reducible rfl
  try simp only [Act.put, List.setIfInBounds_toArray, List.set_cons_zero, List.set_cons_succ]
  refine wpAnyH_ready (rs := [7]) (by kernel_rfl) (by simp) ?_
  refine AllReadyH.cons (opAt rfl) (fun K hK => ?_) ?_
  · go_simp
    (go_at_call 87; (with_reducible refine (pick_any _ _ rb _ ((bs.length : Int) + 1) (HR1.out.up (by repeat (first | (with_reducible exact Ext.refl _) | (with_reducible refine Ext.up ?_ _) | (with_reducible refine Ext.alloc ?_ _) | (with_reducible refine Ext.drew ?_) | (with_reducible refine Ext.setRow ?_ (by first | exact LeS.le | exact LeS.add _ | (simp; done) | (simp; omega)) _) | (with_reducible refine Ext.setCell ?_ (by first | exact LeS.le | exact LeS.add _ | (simp; done) | (simp; omega)) _)))) (by omega) (by omega) (by omega)).mono ?_); rintro e w' ⟨q, rfl, _, _, _, ⟨z2, rfl⟩, hr2⟩; clear hr2)
    try go_wp2_with fail
    refine hK.out _ _ ?_ (fun hHeld1 => ?_)
    · (try dsimp only)
      (first | (refine S_of_gbX (rb := rb) (G := w.heap.size) ?_; (repeat (first | (with_reducible exact grownBy_refl _ _) | (with_reducible refine GB.setNew ?_ (by first | exact LeS.le | exact LeS.add _ | (simp; done) | (simp; omega)) _ _) | (with_reducible refine GB.alloc ?_ _) | (with_reducible refine GB.drew ?_) | (with_reducible refine GB.upR ?_ _) | (with_reducible refine GB.up ?_ _))); done) | (intro n i hnl hnr hng; simp only [cell_setX]; exact S_of_gbX (rb := rb) (G := w.heap.size) (by repeat (first | (with_reducible exact grownBy_refl _ _) | (with_reducible refine GB.setNew ?_ (by first | exact LeS.le | exact LeS.add _ | (simp; done) | (simp; omega)) _ _) | (with_reducible refine GB.alloc ?_ _) | (with_reducible refine GB.drew ?_) | (with_reducible refine GB.upR ?_ _) | (with_reducible refine GB.up ?_ _))) n i))
    clear hK K hHeld
    have hHeld := hHeld1; clear hHeld1
    try simp only [Act.put, List.setIfInBounds_toArray, List.set_cons_zero, List.set_cons_succ]
    refine wpAnyH_ready (rs := [8]) (by kernel_rfl) (by simp) ?_
    refine AllReadyH.cons (opAt rfl) (fun K hK => ?_) ?_
    · go_simp
      refine hK.out _ _ ?_ (fun hHeld1 => ?_)
      · (try dsimp only)
        (first | (refine S_of_gbX (rb := rb) (G := w.heap.size) ?_; (repeat (first | (with_reducible exact grownBy_refl _ _) | (with_reducible refine GB.setNew ?_ (by first | exact LeS.le | exact LeS.add _ | (simp; done) | (simp; omega)) _ _) | (with_reducible refine GB.alloc ?_ _) | (with_reducible refine GB.drew ?_) | (with_reducible refine GB.upR ?_ _) | (with_reducible refine GB.up ?_ _))); done) | (intro n i hnl hnr hng; simp only [cell_setX]; exact S_of_gbX (rb := rb) (G := w.heap.size) (by repeat (first | (with_reducible exact grownBy_refl _ _) | (with_reducible refine GB.setNew ?_ (by first | exact LeS.le | exact LeS.add _ | (simp; done) | (simp; omega)) _ _) | (with_reducible refine GB.alloc ?_ _) | (with_reducible refine GB.drew ?_) | (with_reducible refine GB.upR ?_ _) | (with_reducible refine GB.up ?_ _))) n i))
      clear hK K hHeld
      have hHeld := hHeld1; clear hHeld1
      try simp only [Act.put, List.setIfInBounds_toArray, List.set_cons_zero, List.set_cons_succ]
      refine wpAnyH_take (i := 9) (v := ?_) (opAt rfl) (by kernel_rfl) (by kernel_rfl) (by kernel_rfl) (fun _ _ _ h => h) (Or.inl ⟨by rfl, ?_⟩) (by assumption) ?_
      rotate_left
      · (intro w hSw; (try dsimp only at hSw); go_simp) <;> with_reducible rfl
      try simp only [Act.put, List.setIfInBounds_toArray, List.set_cons_zero, List.set_cons_succ]
      refine wpAnyH_take (i := 10) (v := ?_) (opAt rfl) (by kernel_rfl) (by kernel_rfl) (by kernel_rfl) (fun _ _ _ h => h) (Or.inl ⟨by rfl, ?_⟩) (by assumption) ?_
      rotate_left
      · (intro w hSw; (try dsimp only at hSw); go_simp) <;> with_reducible rfl
      try simp only [Act.put, List.setIfInBounds_toArray, List.set_cons_zero, List.set_cons_succ]
      refine wpAnyH_done (by kernel_rfl) ?_ _
      have r0 : z2.val.cell? ⟨w.heap.size, 0, none⟩ = some (.slice none 0 0) := by go_simp
      have r1 : z2.val.cell? ⟨w.heap.size, 1, none⟩ = some (.slice none 0 0) := by go_simp
      have r2 : z2.val.cell? ⟨w.heap.size, 2, none⟩ = some (.slice none 0 0) := by go_simp
      have HO4 := Lib.hid ((HO.out.up (w' := (z1.val.alloc (.cells #[.slice p0 t.base.length c0, .slice p1 bs.length c1, .slice p2 t.pr.length c2] 42)).drew) (by repeat (first | (with_reducible exact Ext.refl _) | (with_reducible refine Ext.up ?_ _) | (with_reducible refine Ext.alloc ?_ _) | (with_reducible refine Ext.drew ?_) | (with_reducible refine Ext.setRow ?_ (by first | exact LeS.le | exact LeS.add _ | (simp; done) | (simp; omega)) _) | (with_reducible refine Ext.setCell ?_ (by first | exact LeS.le | exact LeS.add _ | (simp; done) | (simp; omega)) _)))).upR (by omega) z2)
      have E : Ext (w.alloc (.cells #[.slice none 0 0, .slice none 0 0, .slice none 0 0] 42)) z2.val := Ext.upR (((Ext.upR z0.ext Hold.out z1).alloc _).drew) Hold.out z2
      go_wp2_with fail
      refine bodyPost_ret (v := .tuple #[.agg #[.slice p0 t.base.length c0, .slice p1 bs.length c1, .slice p2 t.pr.length c2], .int .i64 k, .int .i64 q]) (by simp [results, Try.results50, go_sem, r0, r1, r2]) rfl ?_
      refine ⟨_, _, _, t, k, q, rfl, .of ?_, ?_⟩
      · (repeat (with_reducible refine Ext.setCell ?_ (by dsimp only; omega) _))
        exact (((Ext.refl w).alloc _).trans E)
      · exact OTA.st' (show OTA 75 27 71 3 (w.heap.size + 1) _ _ _ _ t.base bs t.pr from (((HO4.out.lo (lo' := w.heap.size + 1) (by omega)).setOld _ _ (by dsimp only; omega)).setOld _ _ (by dsimp only; omega)).setOld _ _ (by dsimp only; omega)) HC.out
    exact AllReadyH.nil
  exact AllReadyH.nil
set_option maxRecDepth 100000 in
theorem drawPathTo_any (bs : List Int) (v : Value) (w : World) (h : SL (RF encU) 1 w v bs) (hb : ∀ b ∈ bs, 0 ≤ b ∧ b ≤ 255) :
    Calls Try.prog 53 #[v] w fun e w' => ∃ (v0 v1 v2 : Value) (t : Tree) (k : Int), e = .returned (.tuple #[.agg #[v0, v1, v2], .int .i64 k]) ∧ Up w w' ∧ ST w' v0 v1 v2 t := by
  have H := Lib.hid h; clear h
  go_enter Try.func53, Try.ntmps53
  go_wp2_with fail
  refine (open_any bs v _ (H.out.up (by repeat (first | (with_reducible exact Ext.refl _) | (with_reducible refine Ext.up ?_ _) | (with_reducible refine Ext.alloc ?_ _) | (with_reducible refine Ext.drew ?_) | (with_reducible refine Ext.setRow ?_ (by first | exact LeS.le | exact LeS.add _ | (simp; done) | (simp; omega)) _) | (with_reducible refine Ext.setCell ?_ (by first | exact LeS.le | exact LeS.add _ | (simp; done) | (simp; omega)) _)))) hb).mono ?_; rintro e w' ⟨rb, rfl, ⟨z0, rfl⟩, hr⟩
  have H0 := Lib.hid hr
  have Hold := Lib.hid hr.old
  clear hr
  go_wp2_with fail
  refine (at_any _ _ rb 0 12 H0.out (by omega) (by omega) (by omega)).mono ?_; rintro e w' ⟨u0, u1, u2, t, bs, k, rfl, _, hc, ⟨z1, rfl⟩, hr, ho⟩
  obtain ⟨p0, c0, rfl, _, _⟩ := (ho.obase.sl Ent.enc_length).openc
  obtain ⟨p1, c1, rfl, _, _⟩ := (ho.obs.1.sl TB.enc_length).openc
  obtain ⟨p2, c2, rfl, _, _⟩ := (ho.opr.sl encI_length).openc
  have hz := z0.ext.size
  simp at hz
  have E : Ext (w.alloc (.cells #[.slice none 0 0, .slice none 0 0, .slice none 0 0] 42)) z1.val := Ext.upR z0.ext Hold.out z1
  have HO := Lib.hid (ho.lo (lo' := w.heap.size + 1) (by omega))
  have HC := Lib.hid hc
  clear ho hr hc
  obtain ⟨z2, hz2⟩ := Up.of E
  rw [hz2] at HO ⊢
  clear hz2 E z1
  go_wp2_with fail
  have r0 : z2.val.cell? ⟨w.heap.size, 0, none⟩ = some (.slice none 0 0) := by go_simp
  have r1 : z2.val.cell? ⟨w.heap.size, 1, none⟩ = some (.slice none 0 0) := by go_simp
  have r2 : z2.val.cell? ⟨w.heap.size, 2, none⟩ = some (.slice none 0 0) := by go_simp
  refine bodyPost_ret (v := .tuple #[.agg #[.slice p0 t.base.length c0, .slice p1 bs.length c1, .slice p2 t.pr.length c2], .int .i64 k]) (by simp [results, Try.results53, go_sem, r0, r1, r2]) rfl ?_
  exact ⟨_, _, _, t, k, rfl, (.of (by repeat (first | (with_reducible exact Ext.refl _) | (with_reducible refine Ext.up ?_ _) | (with_reducible refine Ext.alloc ?_ _) | (with_reducible refine Ext.drew ?_) | (with_reducible refine Ext.setRow ?_ (by first | exact LeS.le | exact LeS.add _ | (simp; done) | (simp; omega)) _) | (with_reducible refine Ext.setCell ?_ (by first | exact LeS.le | exact LeS.add _ | (simp; done) | (simp; omega)) _)))), OTA.st' (show OTA 75 27 71 3 (w.heap.size + 1) _ _ _ _ t.base bs t.pr from ((HO.out.setOld _ _ (by dsimp only; omega)).setOld _ _ (by dsimp only; omega)).setOld _ _ (by dsimp only; omega)) HC.out⟩
end Go.Proofs.Ytphkimbhjfjjkaa
namespace Go.Proofs.Ytphkimbhjfjjkaa
open Go Go.RowKit

theorem common_comm (a b : List Int) : common a b = common b a := by
  rw [Bool.eq_iff_iff]; simp only [common, List.any_eq_true, List.contains_iff_mem]
  exact ⟨fun ⟨n, a, b⟩ => ⟨n, b, a⟩, fun ⟨n, a, b⟩ => ⟨n, b, a⟩⟩
theorem conf_comm (x y : Actn) : conf x y = conf y x := by
  unfold conf
  rw [common_comm x.wk y.wk, common_comm x.wk y.rk, common_comm x.rk y.wk]
  cases common y.wk x.wk <;> cases common y.rk x.wk <;> cases common y.wk x.rk <;> rfl
/-- The level of action k as far as the first j tell. -/
def lvlAt (l : List Actn) (out : List Int) (k : Nat) : Nat → Int
  | 0 => 0
  | j + 1 => match l[j]?, l[k]?, out[j]? with
    | some x, some y, some o => if conf x y = true then max (lvlAt l out k j) (o + 1) else lvlAt l out k j
    | _, _, _ => lvlAt l out k j
theorem lvlAt_yes {l : List Actn} {out : List Int} {k j : Nat} {x y : Actn} {o : Int} (hx : l[j]? = some x) (hy : l[k]? = some y) (ho : out[j]? = some o) (h : conf x y = true) : lvlAt l out k (j + 1) = max (lvlAt l out k j) (o + 1) := by
  simp [lvlAt, hx, hy, ho, h]
theorem lvlAt_no {l : List Actn} {out : List Int} {k j : Nat} {x y : Actn} {o : Int} (hx : l[j]? = some x) (hy : l[k]? = some y) (ho : out[j]? = some o) (h : conf x y = false) : lvlAt l out k (j + 1) = lvlAt l out k j := by
  simp [lvlAt, hx, hy, ho, h]
def lvlTo (l : List Actn) : Nat → List Int
  | 0 => []
  | k + 1 => lvlTo l k ++ [lvlAt l (lvlTo l k) k k]
theorem lvlTo_length (l : List Actn) : ∀ k, (lvlTo l k).length = k
  | 0 => rfl
  | k + 1 => by simp [lvlTo, lvlTo_length l k]
theorem lvlAt_in {l : List Actn} {out : List Int} {k : Nat} (h : ∀ o ∈ out, 0 ≤ o ∧ o ≤ 1000) : ∀ j, 0 ≤ lvlAt l out k j ∧ lvlAt l out k j ≤ 1001
  | 0 => by simp [lvlAt]
  | j + 1 => by
    have ih := lvlAt_in (l := l) (k := k) h j
    unfold lvlAt
    split
    · rename_i x y o hx hy ho
      have := h o (List.mem_of_getElem? ho)
      split <;> omega
    · exact ih
theorem lvlAt_le {l : List Actn} {out : List Int} {k : Nat} (m : Int) (hm : 0 ≤ m) (h : ∀ o ∈ out, 0 ≤ o ∧ o < m) : ∀ j, 0 ≤ lvlAt l out k j ∧ lvlAt l out k j ≤ m
  | 0 => by simp [lvlAt]; omega
  | j + 1 => by
    have ih := lvlAt_le (l := l) (k := k) m hm h j
    unfold lvlAt
    split
    · rename_i x y o hx hy ho
      have := h o (List.mem_of_getElem? ho)
      split <;> omega
    · exact ih
theorem lvlTo_in (l : List Actn) : ∀ k, ∀ o ∈ lvlTo l k, 0 ≤ o ∧ o < (k : Int)
  | 0 => by simp [lvlTo]
  | k + 1 => by
    have ih := lvlTo_in l k
    intro o ho
    rw [lvlTo, List.mem_append, List.mem_singleton] at ho
    rcases ho with ho | ho
    · have := ih o ho; omega
    · have := lvlAt_le (l := l) (out := lvlTo l k) (k := k) (k : Int) (by omega) ih k
      omega
theorem lvlTo_pre (l : List Actn) {k m : Nat} (h : k ≤ m) : (lvlTo l m).take k = lvlTo l k := by
  induction m with
  | zero => obtain rfl : k = 0 := by omega
            rfl
  | succ m ih =>
    by_cases hk : k = m + 1
    · subst hk; exact List.take_of_length_le (by rw [lvlTo_length]; omega)
    · rw [lvlTo, List.take_append_of_le_length (by rw [lvlTo_length]; omega), ih (by omega)]
end Go.Proofs.Ytphkimbhjfjjkaa
namespace Go.Proofs.Ytphkimbhjfjjkaa
open Go Go.RowKit Go.Proofs

theorem conflict_ok {x y : Actn} (hx : x.ok = true) (hy : y.ok = true) : conflict x y = conf x y := by simp [conflict, hx, hy]
theorem max_lt (a b : Int) : max a b = if a < b then b else a := by split <;> omega
def lvlR (l : List Actn) : List Int := if actsOk l = true then lvlTo l l.length else []
theorem lvlR_no {l : List Actn} (h : actsOk l = false) : lvlR l = [] := by unfold lvlR; rw [h]; rfl
theorem lvlR_yes {l : List Actn} (h : actsOk l = true) : lvlR l = lvlTo l l.length := by unfold lvlR; rw [h]; rfl
theorem lvlR_le (l : List Actn) : (lvlR l).length ≤ 10 := by
  rcases h : actsOk l with _ | _
  · rw [lvlR_no h]; simp
  · rw [lvlR_yes h, lvlTo_length]; exact actsOk_len h
end Go.Proofs.Ytphkimbhjfjjkaa
namespace Go.Proofs.Ytphkimbhjfjjkaa
open Go Go.RowKit Go.Proofs

theorem lvlAt_ge {l : List Actn} {out : List Int} {k j : Nat} {x y : Actn} {o : Int} (hx : l[j]? = some x) (hy : l[k]? = some y) (ho : out[j]? = some o) (h : conf x y = true) : ∀ J, j < J → o + 1 ≤ lvlAt l out k J
  | 0, hJ => absurd hJ (Nat.not_lt_zero _)
  | J + 1, hJ => by
    by_cases hj : j = J
    · subst hj
      rw [lvlAt_yes hx hy ho h]
      exact Int.le_max_right _ _
    · have ih := lvlAt_ge hx hy ho h J (by omega)
      unfold lvlAt
      split
      · split
        · exact Int.le_trans ih (Int.le_max_left _ _)
        · exact ih
      · exact ih
theorem lvlAt_has {l : List Actn} {out : List Int} {k : Nat} : ∀ J, lvlAt l out k J = 0 ∨ ∃ j x y o, j < J ∧ l[j]? = some x ∧ l[k]? = some y ∧ out[j]? = some o ∧ conf x y = true ∧ o + 1 = lvlAt l out k J
  | 0 => .inl rfl
  | J + 1 => by
    have ih := lvlAt_has (l := l) (out := out) (k := k) J
    unfold lvlAt
    split
    · rename_i x y o hx hy ho
      split
      · rename_i hc
        by_cases hm : lvlAt l out k J ≤ o + 1
        · rw [Int.max_eq_right hm]
          exact .inr ⟨J, x, y, o, Nat.lt_succ_self _, hx, hy, ho, hc, rfl⟩
        · rw [Int.max_eq_left (by omega)]
          rcases ih with ih | ⟨j, a, b, c, hj, r⟩
          · exact .inl ih
          · exact .inr ⟨j, a, b, c, by omega, r⟩
      · rcases ih with ih | ⟨j, a, b, c, hj, r⟩
        · exact .inl ih
        · exact .inr ⟨j, a, b, c, by omega, r⟩
    · rcases ih with ih | ⟨j, a, b, c, hj, r⟩
      · exact .inl ih
      · exact .inr ⟨j, a, b, c, by omega, r⟩
theorem lvlTo_get (l : List Actn) {n k : Nat} (h : k < n) : (lvlTo l n)[k]? = some (lvlAt l (lvlTo l k) k k) := by
  have h1 : ((lvlTo l n).take (k + 1))[k]? = (lvlTo l (k + 1))[k]? := by rw [lvlTo_pre l (by omega)]
  rw [List.getElem?_take_of_lt (by omega)] at h1
  rw [h1, lvlTo, List.getElem?_append_right (by rw [lvlTo_length]; exact Nat.le_refl _), lvlTo_length, Nat.sub_self]
  rfl
theorem lvlTo_low (l : List Actn) {n k j : Nat} (hk : k ≤ n) (hj : j < k) : (lvlTo l k)[j]? = (lvlTo l n)[j]? := by
  rw [← lvlTo_pre l hk, List.getElem?_take_of_lt hj]
/-- Of two in conflict the later one is above. -/
theorem lvl_lt {l : List Actn} {n j k : Nat} {x y : Actn} {a b : Int} (hjk : j < k) (hkn : k < n) (hx : l[j]? = some x) (hy : l[k]? = some y) (ha : (lvlTo l n)[j]? = some a) (hb : (lvlTo l n)[k]? = some b) (h : conf x y = true) : a < b := by
  rw [lvlTo_get l hkn] at hb
  cases hb
  have := lvlAt_ge hx hy ((lvlTo_low l (Nat.le_of_lt hkn) hjk).trans ha) h k hjk
  omega
def fnd (l : List Actn) (lv : List Int) (k : Nat) : Nat → Bool
  | 0 => match lv[k]? with | some b => b == 0 | none => false
  | j + 1 => fnd l lv k j || match l[j]?, l[k]?, lv[j]?, lv[k]? with
    | some x, some y, some a, some b => (a == b - 1) && conf x y
    | _, _, _, _ => false
theorem fnd_zero {l : List Actn} {lv : List Int} {k : Nat} {b : Int} (h : lv[k]? = some b) : fnd l lv k 0 = (b == 0) := by simp [fnd, h]
theorem fnd_step {l : List Actn} {lv : List Int} {k j : Nat} {x y : Actn} {a b : Int} (hx : l[j]? = some x) (hy : l[k]? = some y) (ha : lv[j]? = some a) (hb : lv[k]? = some b) : fnd l lv k (j + 1) = (fnd l lv k j || ((a == b - 1) && conf x y)) := by simp [fnd, hx, hy, ha, hb]
theorem fnd_mono {l : List Actn} {lv : List Int} {k : Nat} {i : Nat} (h : fnd l lv k i = true) : ∀ j, i ≤ j → fnd l lv k j = true
  | 0, hj => by have : i = 0 := by omega
                subst this; exact h
  | j + 1, hj => by
    by_cases he : i = j + 1
    · subst he; exact h
    · have := fnd_mono h j (by omega)
      simp [fnd, this]
theorem fnd_all {l : List Actn} {n k : Nat} (hk : k < n) (hl : n ≤ l.length) : fnd l (lvlTo l n) k k = true := by
  have hg := lvlTo_get l hk
  rcases lvlAt_has (l := l) (out := lvlTo l k) (k := k) k with h | ⟨j, x, y, o, hj, hx, hy, ho, hc, he⟩
  · exact fnd_mono (i := 0) (by rw [fnd_zero hg, h]; rfl) k (Nat.zero_le _)
  · rw [lvlTo_low l (Nat.le_of_lt hk) hj] at ho
    refine fnd_mono (i := j + 1) ?_ k (by omega)
    rw [fnd_step hx hy ho hg, hc]
    have : (o == lvlAt l (lvlTo l k) k k - 1) = true := by simp; omega
    rw [this]; simp
set_option maxHeartbeats 1000000 in
theorem sameInts_same (l : List Int) (v v' : Value) (w : World) (h : SL (RF encI) 1 w v l) (h' : SL (RF encI) 1 w v' l) :
    Calls Try.prog 55 #[v, v'] w fun e w' => e = .returned (.bool true) ∧ Up w w' := by
  obtain ⟨a, cap, rfl, hlen, hc⟩ := h.open
  obtain ⟨a', cap', rfl, _, hc'⟩ := h'.open
  go_enter Try.func55, Try.ntmps55
  go_wp2_with fail
  go_loopw [5] (fun s5 wr => ∃ (k : Nat), s5 = .int .i64 k ∧ k ≤ l.length ∧ Up w wr) (fun s5 _ => l.length - (intOf s5).toNat)
  case atStart => exact ⟨0, rfl, Nat.zero_le _, .of (Ext.refl _)⟩
  case round =>
    obtain ⟨k, rfl, hk, ⟨z, rfl⟩⟩ := hrel
    by_cases hlt : k < l.length
    · obtain ⟨x, hxk⟩ := getElem?_some_of_lt hlt
      obtain ⟨b, off, rfl, hb, hcc⟩ := hc k x hxk
      obtain ⟨b', off', rfl, hb', hdd⟩ := hc' k x hxk
      have c0 : w.cell? ⟨b, off + k, none⟩ = some (.int .i64 x) := by have := hcc 0 _ rfl; simpa using this
      have d0 : w.cell? ⟨b', off' + k, none⟩ = some (.int .i64 x) := by have := hdd 0 _ rfl; simpa using this
      have k0 : (0 : Int) ≤ (k : Int) := by omega
      clear hc hcc hc' hdd hxk
      go_wp2_with fail
      (refine wp_region_up (by kernel_rfl) (by kernel_rfl) ?_; (repeat (go_big_quiet_step (fail))); refine wpQuiet_nil ?_; intro _ hw'; obtain ⟨zq, hw''⟩ := hw'; subst hw'')
      go_wp2_with fail
      go_roundw
      case rel => exact ⟨k + 1, by go_num, by omega, (.of (by repeat (first | (with_reducible exact Ext.refl _) | (with_reducible refine Ext.up ?_ _) | (with_reducible refine Ext.alloc ?_ _) | (with_reducible refine Ext.drew ?_) | (with_reducible refine Ext.setRow ?_ (by first | exact LeS.le | exact LeS.add _ | (simp; done) | (simp; omega)) _) | (with_reducible refine Ext.setCell ?_ (by first | exact LeS.le | exact LeS.add _ | (simp; done) | (simp; omega)) _))))⟩
      case measure => simp [intOf]; omega
    · go_wp2_with fail
      go_ret
      exact ⟨rfl, z, rfl⟩
end Go.Proofs.Ytphkimbhjfjjkaa
