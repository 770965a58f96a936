/- Walks: drawn trees with a number: l20At, DrawPathTo, DrawIsBefore. Walks: the law FnBlockTreeValid. Walks: draws of trees with a block: DrawStoreOf, DrawRightBlocks, DrawBranchLayers. Walks: stores that are compared by the laws. -/
import Derived.Test.YteiemjebdhmnaaaGSoTop30
import Derived.Test.YteiemjebdhmnaaaGSoTop19
import Derived.Test.YteiemjebdhmnaaaGSoTop16
import Derived.Test.YteiemjebdhmnaaaGSoTop17
set_option linter.unusedSimpArgs false
set_option linter.unusedVariables false
namespace Go.Proofs.Yteiemjebdhmnaaa
open Go Go.RowKit Go.Proofs

set_option maxRecDepth 100000 in
set_option maxHeartbeats 4000000 in
theorem at_any (w0 w : World) (rb : Nat) (lim n : Int) (h : Rd w0 w rb lim) (hl : lim ≤ 1000) (hn0 : 0 ≤ n) (hnm : n ≤ 1000000) :
    Calls Try.prog 27 #[.pointer (some ⟨rb, 0, none⟩), .int .i64 n] w fun e w' => ∃ (u0 u1 u2 : Value) (t : Tree) (bs : List TB) (k : Int), e = .returned (.tuple #[.agg #[u0, u1, u2], .int .i64 k]) ∧ (1 ≤ t.bs.length ∧ t.bs.length ≤ 14) ∧ bs.map TB.core = t.bs ∧ (∃ z : ExtR rb w, w' = z.val) ∧ Rd w0 w' rb (lim + 5950) ∧ OTA 61 39 85 3 w.heap.size w' u0 u1 u2 t.base bs t.pr := by
  have H := Lib.hid h
  have hL : LtS rb w := ⟨h.lt⟩
  have hlt := h.lt
  have hold := h.old
  have hLe : w0.heap.size ≤ w.heap.size := h.ext.size
  have hRr : NeS w.heap.size rb := ⟨by omega⟩
  clear h
  go_enter Try.func27, Try.ntmps27
  go_wp2_with fail
  refine (tree_any w0 _ rb lim n (H.out.up (by repeat (first | (with_reducible exact Ext.refl _) | (with_reducible refine Ext.up ?_ _) | (with_reducible refine Ext.alloc ?_ _) | (with_reducible refine Ext.drew ?_) | (with_reducible refine Ext.setRow ?_ (by first | exact LeS.le | exact LeS.add _ | (simp; done) | (simp; omega)) _) | (with_reducible refine Ext.setCell ?_ (by first | exact LeS.le | exact LeS.add _ | (simp; done) | (simp; omega)) _)))) (by omega) (by omega) (by omega)).mono ?_; rintro e w' ⟨u0, u1, u2, t, bs, rfl, _, hbl, hc, ⟨z1, rfl⟩, hr1, ho⟩
  obtain ⟨p0, c0, rfl, _, _⟩ := (ho.obase.sl Ent.enc_length).openc
  obtain ⟨p1, c1, rfl, _, _⟩ := (ho.obs.1.sl TB.enc_length).openc
  obtain ⟨p2, c2, rfl, _, _⟩ := (ho.opr.sl encI_length).openc
  have hlen : bs.length = t.bs.length := by rw [← hc, List.length_map]
  have hb1 : 1 ≤ bs.length := by omega
  have hb14 : bs.length ≤ 14 := by omega
  have HB := Lib.hid hbl; have HC := Lib.hid hc
  have HR1 := Lib.hid hr1; have HO := Lib.hid ho
  have h1 := z1.grown.size
  simp at h1
  have hL1 : LtS rb z1.val := ⟨hr1.lt⟩
  have hG : NeS z1.val.heap.size rb := ⟨by omega⟩
  have hGR : NeS z1.val.heap.size w.heap.size := ⟨by omega⟩
  have hRG : NeS w.heap.size z1.val.heap.size := ⟨by omega⟩
  clear hr1 ho hc hlen hbl
  go_upto_region 2 with fail
  refine wp_region_held_drew (S := (fun w' => ∀ n i, ∀ [LtS n (z1.val.alloc (.cells #[.slice p0 t.base.length c0, .slice p1 bs.length c1, .slice p2 t.pr.length c2] 27))] [NeS n rb] [NeS n w.heap.size], w'.cell? ⟨n, i, none⟩ = World.cell? (z1.val.alloc (.cells #[.slice p0 t.base.length c0, .slice p1 bs.length c1, .slice p2 t.pr.length c2] 27)) ⟨n, i, none⟩)) (by kernel_rfl) ?_ (fun hHeld => ?_)
  · (try dsimp only)
    (first | (refine S_of_gbX (rb := rb) (G := w.heap.size) ?_; (repeat (first | (with_reducible exact grownBy_refl _ _) | (with_reducible refine GB.setNew ?_ (by first | exact LeS.le | exact LeS.add _ | (simp; done) | (simp; omega)) _ _) | (with_reducible refine GB.alloc ?_ _) | (with_reducible refine GB.drew ?_) | (with_reducible refine GB.upR ?_ _) | (with_reducible refine GB.up ?_ _))); done) | (intro n i hnl hnr hng; simp only [cell_setX]; exact S_of_gbX (rb := rb) (G := w.heap.size) (by repeat (first | (with_reducible exact grownBy_refl _ _) | (with_reducible refine GB.setNew ?_ (by first | exact LeS.le | exact LeS.add _ | (simp; done) | (simp; omega)) _ _) | (with_reducible refine GB.alloc ?_ _) | (with_reducible refine GB.drew ?_) | (with_reducible refine GB.upR ?_ _) | (with_reducible refine GB.up ?_ _))) n i))
  refine wpAnyH_take (i := 0) (v := ?_) (opAt rfl) (by kernel_rfl) (by kernel_rfl) (by kernel_rfl) (fun _ _ _ h => h) (Or.inl ⟨by rfl, ?_⟩) (by assumption) ?_
  rotate_left
  · (intro w hSw; (try dsimp only at hSw); go_simp) <;> with_reducible rfl
  try simp only [Act.put, List.setIfInBounds_toArray, List.set_cons_zero, List.set_cons_succ]
  refine wpAnyH_take (i := 1) (v := ?_) (opAt rfl) (by kernel_rfl) (by kernel_rfl) (by kernel_rfl) (fun _ _ _ h => h) (Or.inl ⟨by rfl, ?_⟩) (by assumption) ?_
  rotate_left
  · (intro w hSw; (try dsimp only at hSw); go_simp) <;> with_reducible rfl
  try simp only [Act.put, List.setIfInBounds_toArray, List.set_cons_zero, List.set_cons_succ]
  refine wpAnyH_take (i := 2) (v := ?_) (opAt rfl) (by kernel_rfl) (by kernel_rfl) (by kernel_rfl) (fun _ _ _ h => h) (Or.inl ⟨by rfl, ?_⟩) (by assumption) ?_
  rotate_left
  · (intro w hSw; (try dsimp only at hSw); go_simp) <;> with_reducible rfl
  try simp only [Act.put, List.setIfInBounds_toArray, List.set_cons_zero, List.set_cons_succ]
  refine wpAnyH_take (i := 3) (v := ?_) (opAt rfl) (by kernel_rfl) (by kernel_rfl) (by kernel_rfl) (fun _ _ _ h => h) (Or.inl ⟨by rfl, ?_⟩) (by assumption) ?_
  rotate_left
  · (intro w hSw; (try dsimp only at hSw); go_simp) <;> with_reducible rfl
  try simp only [Act.put, List.setIfInBounds_toArray, List.set_cons_zero, List.set_cons_succ]
  refine wpAnyH_take (i := 4) (v := ?_) (opAt rfl) (by kernel_rfl) (by kernel_rfl) (by kernel_rfl) (fun _ _ _ h => h) (Or.inl ⟨by rfl, ?_⟩) (by assumption) ?_
  rotate_left
  · (intro w hSw; (try dsimp only at hSw); go_simp) <;> with_reducible rfl
  try simp only [Act.put, List.setIfInBounds_toArray, List.set_cons_zero, List.set_cons_succ]
  refine wpAnyH_take (i := 6) (v := ?_) (opAt rfl) (by kernel_rfl) (by kernel_rfl) (by kernel_rfl) (fun _ _ _ h => h) (Or.inl ⟨by rfl, ?_⟩) (by assumption) ?_
  rotate_left
  · (intro w hSw; (try dsimp only at hSw); go_simp) <;> with_reducible rfl
  try simp only [Act.put, List.setIfInBounds_toArray, List.set_cons_zero, List.set_cons_succ]
  refine wpAnyH_take (i := 11) (v := ?_) (opAt rfl) (by kernel_rfl) (by kernel_rfl) (by kernel_rfl) (fun _ _ _ h => h) (Or.inl ⟨by rfl, ?_⟩) (by assumption) ?_
  rotate_left
  · (intro w hSw; (try dsimp only at hSw); go_simp) <;> with_reducible rfl
  try simp only [Act.put, List.setIfInBounds_toArray, List.set_cons_zero, List.set_cons_succ]
  refine wpAnyH_ready (rs := [5]) (by kernel_rfl) (by simp) ?_
  refine AllReadyH.cons (opAt rfl) (fun K hK => ?_) ?_
  · go_simp
    (go_at_call 55; (with_reducible refine (pick_any w0 _ rb _ (bs.length : Int) (HR1.out.up (by repeat (first | (with_reducible exact Ext.refl _) | (with_reducible refine Ext.up ?_ _) | (with_reducible refine Ext.alloc ?_ _) | (with_reducible refine Ext.drew ?_) | (with_reducible refine Ext.setRow ?_ (by first | exact LeS.le | exact LeS.add _ | (simp; done) | (simp; omega)) _) | (with_reducible refine Ext.setCell ?_ (by first | exact LeS.le | exact LeS.add _ | (simp; done) | (simp; omega)) _)))) (by omega) (by omega) (by omega)).mono ?_); rintro e w' ⟨q, rfl, _, _, _, ⟨z2, rfl⟩, hr2⟩; have HR2 := Lib.hid hr2; clear hr2)
    try go_wp2_with fail
    refine hK.out _ _ ?_ (fun hHeld1 => ?_)
    · (try dsimp only)
      (first | (refine S_of_gbX (rb := rb) (G := w.heap.size) ?_; (repeat (first | (with_reducible exact grownBy_refl _ _) | (with_reducible refine GB.setNew ?_ (by first | exact LeS.le | exact LeS.add _ | (simp; done) | (simp; omega)) _ _) | (with_reducible refine GB.alloc ?_ _) | (with_reducible refine GB.drew ?_) | (with_reducible refine GB.upR ?_ _) | (with_reducible refine GB.up ?_ _))); done) | (intro n i hnl hnr hng; simp only [cell_setX]; exact S_of_gbX (rb := rb) (G := w.heap.size) (by repeat (first | (with_reducible exact grownBy_refl _ _) | (with_reducible refine GB.setNew ?_ (by first | exact LeS.le | exact LeS.add _ | (simp; done) | (simp; omega)) _ _) | (with_reducible refine GB.alloc ?_ _) | (with_reducible refine GB.drew ?_) | (with_reducible refine GB.upR ?_ _) | (with_reducible refine GB.up ?_ _))) n i))
    clear hK K hHeld
    have hHeld := hHeld1; clear hHeld1
    try simp only [Act.put, List.setIfInBounds_toArray, List.set_cons_zero, List.set_cons_succ]
    refine wpAnyH_ready (rs := [7]) (by kernel_rfl) (by simp) ?_
    refine AllReadyH.cons (opAt rfl) (fun K hK => ?_) ?_
    · go_simp
      (go_at_call 55; (with_reducible refine (pick_any w0 _ rb _ 12 (HR2.out.up (by repeat (first | (with_reducible exact Ext.refl _) | (with_reducible refine Ext.up ?_ _) | (with_reducible refine Ext.alloc ?_ _) | (with_reducible refine Ext.drew ?_) | (with_reducible refine Ext.setRow ?_ (by first | exact LeS.le | exact LeS.add _ | (simp; done) | (simp; omega)) _) | (with_reducible refine Ext.setCell ?_ (by first | exact LeS.le | exact LeS.add _ | (simp; done) | (simp; omega)) _)))) (by omega) (by omega) (by omega)).mono ?_); rintro e w' ⟨a, rfl, _, _, _, ⟨z3, rfl⟩, hr3⟩; have HR3 := Lib.hid hr3; clear hr3; obtain ⟨a1, ha1'⟩ : ∃ a1 : Int, IntKind.i64.wrap (a.tdiv 11) = a1 := ⟨_, rfl⟩; obtain ⟨a2, ha2'⟩ : ∃ a2 : Int, IntKind.i64.wrap (a1 * 20) = a2 := ⟨_, rfl⟩; obtain ⟨a3, ha3'⟩ : ∃ a3 : Int, IntKind.i64.wrap (q + a2) = a3 := ⟨_, rfl⟩)
      try go_wp2_with fail
      refine hK.out _ _ ?_ (fun hHeld1 => ?_)
      · (try dsimp only)
        (first | (refine S_of_gbX (rb := rb) (G := w.heap.size) ?_; (repeat (first | (with_reducible exact grownBy_refl _ _) | (with_reducible refine GB.setNew ?_ (by first | exact LeS.le | exact LeS.add _ | (simp; done) | (simp; omega)) _ _) | (with_reducible refine GB.alloc ?_ _) | (with_reducible refine GB.drew ?_) | (with_reducible refine GB.upR ?_ _) | (with_reducible refine GB.up ?_ _))); done) | (intro n i hnl hnr hng; simp only [cell_setX]; exact S_of_gbX (rb := rb) (G := w.heap.size) (by repeat (first | (with_reducible exact grownBy_refl _ _) | (with_reducible refine GB.setNew ?_ (by first | exact LeS.le | exact LeS.add _ | (simp; done) | (simp; omega)) _ _) | (with_reducible refine GB.alloc ?_ _) | (with_reducible refine GB.drew ?_) | (with_reducible refine GB.upR ?_ _) | (with_reducible refine GB.up ?_ _))) n i))
      clear hK K hHeld
      have hHeld := hHeld1; clear hHeld1
      try simp only [Act.put, List.setIfInBounds_toArray, List.set_cons_zero, List.set_cons_succ]
      refine wpAnyH_take (i := 8) (v := ?_) (opAt rfl) (by kernel_rfl) (by kernel_rfl) (by kernel_rfl) (fun _ _ _ h => h) (Or.inl ⟨by rfl, ?_⟩) (by assumption) ?_
      rotate_left
      · (intro w hSw; (try dsimp only at hSw); go_simp) <;> with_reducible rfl
      try simp only [Act.put, List.setIfInBounds_toArray, List.set_cons_zero, List.set_cons_succ]
      refine wpAnyH_take (i := 9) (v := ?_) (opAt rfl) (by kernel_rfl) (by kernel_rfl) (by kernel_rfl) (fun _ _ _ h => h) (Or.inl ⟨by rfl, ?_⟩) (by assumption) ?_
      rotate_left
      · (intro w hSw; (try dsimp only at hSw); go_simp) <;> with_reducible rfl
      try simp only [Act.put, List.setIfInBounds_toArray, List.set_cons_zero, List.set_cons_succ]
      refine wpAnyH_take (i := 10) (v := ?_) (opAt rfl) (by kernel_rfl) (by kernel_rfl) (by kernel_rfl) (fun _ _ _ h => h) (Or.inl ⟨by rfl, ?_⟩) (by assumption) ?_
      rotate_left
      · (intro w hSw; (try dsimp only at hSw); go_simp) <;> with_reducible rfl
      try simp only [Act.put, List.setIfInBounds_toArray, List.set_cons_zero, List.set_cons_succ]
      refine wpAnyH_ready (rs := [12]) (by kernel_rfl) (by simp) ?_
      refine AllReadyH.cons (opAt rfl) (fun K hK => ?_) ?_
      · go_simp
        (go_at_call 55; (with_reducible refine (pick_any w0 _ rb _ 12 (HR3.out.up (by repeat (first | (with_reducible exact Ext.refl _) | (with_reducible refine Ext.up ?_ _) | (with_reducible refine Ext.alloc ?_ _) | (with_reducible refine Ext.drew ?_) | (with_reducible refine Ext.setRow ?_ (by first | exact LeS.le | exact LeS.add _ | (simp; done) | (simp; omega)) _) | (with_reducible refine Ext.setCell ?_ (by first | exact LeS.le | exact LeS.add _ | (simp; done) | (simp; omega)) _)))) (by omega) (by omega) (by omega)).mono ?_); rintro e w' ⟨b, rfl, _, _, _, ⟨z4, rfl⟩, hr4⟩; have HR4 := Lib.hid hr4; clear hr4; obtain ⟨b1, hb1'⟩ : ∃ b1 : Int, IntKind.i64.wrap (b.tdiv 11) = b1 := ⟨_, rfl⟩; obtain ⟨b2, hb2'⟩ : ∃ b2 : Int, IntKind.i64.wrap (b1 * 40) = b2 := ⟨_, rfl⟩; obtain ⟨b3, hb3'⟩ : ∃ b3 : Int, IntKind.i64.wrap (a3 - b2) = b3 := ⟨_, rfl⟩)
        try go_wp2_with fail
        refine hK.out _ _ ?_ (fun hHeld1 => ?_)
        · (try dsimp only)
          (first | (refine S_of_gbX (rb := rb) (G := w.heap.size) ?_; (repeat (first | (with_reducible exact grownBy_refl _ _) | (with_reducible refine GB.setNew ?_ (by first | exact LeS.le | exact LeS.add _ | (simp; done) | (simp; omega)) _ _) | (with_reducible refine GB.alloc ?_ _) | (with_reducible refine GB.drew ?_) | (with_reducible refine GB.upR ?_ _) | (with_reducible refine GB.up ?_ _))); done) | (intro n i hnl hnr hng; simp only [cell_setX]; exact S_of_gbX (rb := rb) (G := w.heap.size) (by repeat (first | (with_reducible exact grownBy_refl _ _) | (with_reducible refine GB.setNew ?_ (by first | exact LeS.le | exact LeS.add _ | (simp; done) | (simp; omega)) _ _) | (with_reducible refine GB.alloc ?_ _) | (with_reducible refine GB.drew ?_) | (with_reducible refine GB.upR ?_ _) | (with_reducible refine GB.up ?_ _))) n i))
        clear hK K hHeld
        have hHeld := hHeld1; clear hHeld1
        try simp only [Act.put, List.setIfInBounds_toArray, List.set_cons_zero, List.set_cons_succ]
        refine wpAnyH_take (i := 13) (v := ?_) (opAt rfl) (by kernel_rfl) (by kernel_rfl) (by kernel_rfl) (fun _ _ _ h => h) (Or.inl ⟨by rfl, ?_⟩) (by assumption) ?_
        rotate_left
        · (intro w hSw; (try dsimp only at hSw); go_simp) <;> with_reducible rfl
        try simp only [Act.put, List.setIfInBounds_toArray, List.set_cons_zero, List.set_cons_succ]
        refine wpAnyH_take (i := 14) (v := ?_) (opAt rfl) (by kernel_rfl) (by kernel_rfl) (by kernel_rfl) (fun _ _ _ h => h) (Or.inl ⟨by rfl, ?_⟩) (by assumption) ?_
        rotate_left
        · (intro w hSw; (try dsimp only at hSw); go_simp) <;> with_reducible rfl
        try simp only [Act.put, List.setIfInBounds_toArray, List.set_cons_zero, List.set_cons_succ]
        refine wpAnyH_take (i := 15) (v := ?_) (opAt rfl) (by kernel_rfl) (by kernel_rfl) (by kernel_rfl) (fun _ _ _ h => h) (Or.inl ⟨by rfl, ?_⟩) (by assumption) ?_
        rotate_left
        · (intro w hSw; (try dsimp only at hSw); go_simp) <;> with_reducible rfl
        try simp only [Act.put, List.setIfInBounds_toArray, List.set_cons_zero, List.set_cons_succ]
        refine wpAnyH_ready (rs := [16]) (by kernel_rfl) (by simp) ?_
        refine AllReadyH.cons (opAt rfl) (fun K hK => ?_) ?_
        · go_simp
          refine hK.out _ _ ?_ (fun hHeld1 => ?_)
          · (try dsimp only)
            (first | (refine S_of_gbX (rb := rb) (G := w.heap.size) ?_; (repeat (first | (with_reducible exact grownBy_refl _ _) | (with_reducible refine GB.setNew ?_ (by first | exact LeS.le | exact LeS.add _ | (simp; done) | (simp; omega)) _ _) | (with_reducible refine GB.alloc ?_ _) | (with_reducible refine GB.drew ?_) | (with_reducible refine GB.upR ?_ _) | (with_reducible refine GB.up ?_ _))); done) | (intro n i hnl hnr hng; simp only [cell_setX]; exact S_of_gbX (rb := rb) (G := w.heap.size) (by repeat (first | (with_reducible exact grownBy_refl _ _) | (with_reducible refine GB.setNew ?_ (by first | exact LeS.le | exact LeS.add _ | (simp; done) | (simp; omega)) _ _) | (with_reducible refine GB.alloc ?_ _) | (with_reducible refine GB.drew ?_) | (with_reducible refine GB.upR ?_ _) | (with_reducible refine GB.up ?_ _))) n i))
          clear hK K hHeld
          have hHeld := hHeld1; clear hHeld1
          try simp only [Act.put, List.setIfInBounds_toArray, List.set_cons_zero, List.set_cons_succ]
          refine wpAnyH_take (i := 17) (v := ?_) (opAt rfl) (by kernel_rfl) (by kernel_rfl) (by kernel_rfl) (fun _ _ _ h => h) (Or.inl ⟨by rfl, ?_⟩) (by assumption) ?_
          rotate_left
          · (intro w hSw; (try dsimp only at hSw); go_simp) <;> with_reducible rfl
          try simp only [Act.put, List.setIfInBounds_toArray, List.set_cons_zero, List.set_cons_succ]
          refine wpAnyH_done (by kernel_rfl) ?_ _
          have r0 : z4.val.cell? ⟨w.heap.size, 0, none⟩ = some (.slice none 0 0) := by go_simp
          have r1 : z4.val.cell? ⟨w.heap.size, 1, none⟩ = some (.slice none 0 0) := by go_simp
          have r2 : z4.val.cell? ⟨w.heap.size, 2, none⟩ = some (.slice none 0 0) := by go_simp
          have h2 := z2.grown.size
          have h3 := z3.grown.size
          simp at h2 h3
          have HO4 := Lib.hid ((((HO.out.up (w' := (z1.val.alloc (.cells #[.slice p0 t.base.length c0, .slice p1 bs.length c1, .slice p2 t.pr.length c2] 27)).drew) (by repeat (first | (with_reducible exact Ext.refl _) | (with_reducible refine Ext.up ?_ _) | (with_reducible refine Ext.alloc ?_ _) | (with_reducible refine Ext.drew ?_) | (with_reducible refine Ext.setRow ?_ (by first | exact LeS.le | exact LeS.add _ | (simp; done) | (simp; omega)) _) | (with_reducible refine Ext.setCell ?_ (by first | exact LeS.le | exact LeS.add _ | (simp; done) | (simp; omega)) _)))).upR (by simp; omega) z2).upR (by simp; omega) z3).upR (by simp; omega) z4)
          have HG4 := Lib.hid (GB.upR (GB.upR (GB.upR (GB.drew (GB.alloc (GB.upR (GB.alloc (grownBy_refl w (some rb)) _) z1) (.cells #[.slice p0 t.base.length c0, .slice p1 bs.length c1, .slice p2 t.pr.length c2] 27))) z2) z3) z4)
          go_wp2_with fail
          refine bodyPost_ret (v := .tuple #[.agg #[.slice p0 t.base.length c0, .slice p1 bs.length c1, .slice p2 t.pr.length c2], .int .i64 b3]) (by simp [results, Try.results27, go_sem, r0, r1, r2]) rfl ?_
          refine ⟨_, _, _, t, bs, b3, rfl, HB.out, HC.out, ExtR.of ?_, ?_, ?_⟩
          · (repeat (with_reducible refine GB.setNew ?_ (by omega) _ _))
            exact HG4.out
          · refine Rd.mono (a := lim + 5900 + 1 + 1 + 1) ?_ (by omega)
            (repeat (with_reducible refine Rd.set ?_ _ _ (by omega) (by omega)))
            exact HR4.out
          · exact ((((HO4.out.lo (lo' := w.heap.size + 1) (by simp)).setOld _ _ (by show w.heap.size < _; omega)).setOld _ _ (by show w.heap.size < _; omega)).setOld _ _ (by show w.heap.size < _; omega)).lo (by omega)
        exact AllReadyH.nil
      exact AllReadyH.nil
    exact AllReadyH.nil
  exact AllReadyH.nil
end Go.Proofs.Yteiemjebdhmnaaa
namespace Go.Proofs.Yteiemjebdhmnaaa
open Go Go.RowKit Go.Proofs

theorem SB.take {w : World} {p : Option Addr} {n c k : Nat} {cs : List BL} (h : SB w (.slice p n c) cs) (hk : k ≤ cs.length) : SB w (.slice p k c) (cs.take k) := by
  obtain ⟨bs, rfl, h2, h3⟩ := h
  exact ⟨bs.take k, by rw [List.map_take], h2.take (by simpa using hk), fun x hx => h3 x (List.mem_of_mem_take hx)⟩
end Go.Proofs.Yteiemjebdhmnaaa
namespace Go.Proofs.Yteiemjebdhmnaaa
open Go Go.RowKit Go.Proofs

set_option maxRecDepth 100000 in
theorem drawStoreOf_any (bs : List Int) (v : Value) (w : World) (h : SL (RF encU) 1 w v bs) (hb : ∀ b ∈ bs, 0 ≤ b ∧ b ≤ 255) :
    Calls Try.prog 7 #[v] w fun e w' => ∃ (v0 v1 v2 : Value) (t : Tree) (k : Int), e = .returned (.tuple #[.agg #[v0, v1, v2], .int .i64 k]) ∧ Up w w' ∧ ST w' v0 v1 v2 t := by
  have H := Lib.hid h; clear h
  go_enter Try.func7, Try.ntmps7
  go_wp2_with fail
  refine (open_any bs v _ (H.out.up (by repeat (first | (with_reducible exact Ext.refl _) | (with_reducible refine Ext.up ?_ _) | (with_reducible refine Ext.alloc ?_ _) | (with_reducible refine Ext.drew ?_) | (with_reducible refine Ext.setRow ?_ (by first | exact LeS.le | exact LeS.add _ | (simp; done) | (simp; omega)) _) | (with_reducible refine Ext.setCell ?_ (by first | exact LeS.le | exact LeS.add _ | (simp; done) | (simp; omega)) _)))) hb).mono ?_; rintro e w' ⟨rb, rfl, ⟨z0, rfl⟩, hr⟩
  have H0 := Lib.hid hr
  have Hold := Lib.hid hr.old
  clear hr
  go_wp2_with fail
  refine (at_any _ _ rb 0 12 H0.out (by omega) (by omega) (by omega)).mono ?_; rintro e w' ⟨u0, u1, u2, t, bs, k, rfl, _, hc, ⟨z1, rfl⟩, hr, ho⟩
  obtain ⟨p0, c0, rfl, _, _⟩ := (ho.obase.sl Ent.enc_length).openc
  obtain ⟨p1, c1, rfl, _, _⟩ := (ho.obs.1.sl TB.enc_length).openc
  obtain ⟨p2, c2, rfl, _, _⟩ := (ho.opr.sl encI_length).openc
  have hz := z0.ext.size
  simp at hz
  have E : Ext (w.alloc (.cells #[.slice none 0 0, .slice none 0 0, .slice none 0 0] 27)) z1.val := Ext.upR z0.ext Hold.out z1
  have HO := Lib.hid (ho.lo (lo' := w.heap.size + 1) (by omega))
  have HC := Lib.hid hc
  clear ho hr hc
  obtain ⟨z2, hz2⟩ := Up.of E
  rw [hz2] at HO ⊢
  clear hz2 E z1
  go_wp2_with fail
  have r0 : z2.val.cell? ⟨w.heap.size, 0, none⟩ = some (.slice none 0 0) := by go_simp
  have r1 : z2.val.cell? ⟨w.heap.size, 1, none⟩ = some (.slice none 0 0) := by go_simp
  have r2 : z2.val.cell? ⟨w.heap.size, 2, none⟩ = some (.slice none 0 0) := by go_simp
  refine bodyPost_ret (v := .tuple #[.agg #[.slice p0 t.base.length c0, .slice p1 bs.length c1, .slice p2 t.pr.length c2], .int .i64 k]) (by simp [results, Try.results7, go_sem, r0, r1, r2]) rfl ?_
  exact ⟨_, _, _, t, k, rfl, (.of (by repeat (first | (with_reducible exact Ext.refl _) | (with_reducible refine Ext.up ?_ _) | (with_reducible refine Ext.alloc ?_ _) | (with_reducible refine Ext.drew ?_) | (with_reducible refine Ext.setRow ?_ (by first | exact LeS.le | exact LeS.add _ | (simp; done) | (simp; omega)) _) | (with_reducible refine Ext.setCell ?_ (by first | exact LeS.le | exact LeS.add _ | (simp; done) | (simp; omega)) _)))), OTA.st' (show OTA 61 39 85 3 (w.heap.size + 1) _ _ _ _ t.base bs t.pr from ((HO.out.setOld _ _ (by dsimp only; omega)).setOld _ _ (by dsimp only; omega)).setOld _ _ (by dsimp only; omega)) HC.out⟩
set_option maxRecDepth 100000 in
theorem drawRightBlocks_any (bs : List Int) (v : Value) (w : World) (h : SL (RF encU) 1 w v bs) (hb : ∀ b ∈ bs, 0 ≤ b ∧ b ≤ 255) :
    Calls Try.prog 15 #[v] w fun e w' => ∃ (v0 v1 v2 : Value) (t : Tree), e = .returned (.agg #[v0, v1, v2]) ∧ Up w w' ∧ (1 ≤ t.bs.length ∧ t.bs.length ≤ 14) ∧ ST w' v0 v1 v2 t := by
  have H := Lib.hid h; clear h
  go_enter Try.func15, Try.ntmps15
  go_wp2_with fail
  refine (open_any bs v _ (H.out.up (by repeat (first | (with_reducible exact Ext.refl _) | (with_reducible refine Ext.up ?_ _) | (with_reducible refine Ext.alloc ?_ _) | (with_reducible refine Ext.drew ?_) | (with_reducible refine Ext.setRow ?_ (by first | exact LeS.le | exact LeS.add _ | (simp; done) | (simp; omega)) _) | (with_reducible refine Ext.setCell ?_ (by first | exact LeS.le | exact LeS.add _ | (simp; done) | (simp; omega)) _)))) hb).mono ?_; rintro e w' ⟨rb, rfl, ⟨z0, rfl⟩, hr⟩
  have H0 := Lib.hid hr
  have Hold := Lib.hid hr.old
  clear hr
  go_wp2_with fail
  refine (tree_any _ _ rb 0 9 H0.out (by omega) (by omega) (by omega)).mono ?_; rintro e w' ⟨u0, u1, u2, t, bs, rfl, _, hl, hc, ⟨z1, rfl⟩, hr, ho⟩
  obtain ⟨p0, c0, rfl, _, _⟩ := (ho.obase.sl Ent.enc_length).openc
  obtain ⟨p1, c1, rfl, _, _⟩ := (ho.obs.1.sl TB.enc_length).openc
  obtain ⟨p2, c2, rfl, _, _⟩ := (ho.opr.sl encI_length).openc
  have hz := z0.ext.size
  simp at hz
  have E : Ext (w.alloc (.cells #[.slice none 0 0, .slice none 0 0, .slice none 0 0] 27)) z1.val := Ext.upR z0.ext Hold.out z1
  have HO := Lib.hid (ho.lo (lo' := w.heap.size + 1) (by omega))
  have HC := Lib.hid hc
  clear ho hr hc
  obtain ⟨z2, hz2⟩ := Up.of E
  rw [hz2] at HO ⊢
  clear hz2 E z1
  go_wp2_with fail
  have r0 : z2.val.cell? ⟨w.heap.size, 0, none⟩ = some (.slice none 0 0) := by go_simp
  have r1 : z2.val.cell? ⟨w.heap.size, 1, none⟩ = some (.slice none 0 0) := by go_simp
  have r2 : z2.val.cell? ⟨w.heap.size, 2, none⟩ = some (.slice none 0 0) := by go_simp
  refine bodyPost_ret (v := .agg #[.slice p0 t.base.length c0, .slice p1 bs.length c1, .slice p2 t.pr.length c2]) (by simp [results, Try.results15, go_sem, r0, r1, r2]) rfl ?_
  exact ⟨_, _, _, t, rfl, (.of (by repeat (first | (with_reducible exact Ext.refl _) | (with_reducible refine Ext.up ?_ _) | (with_reducible refine Ext.alloc ?_ _) | (with_reducible refine Ext.drew ?_) | (with_reducible refine Ext.setRow ?_ (by first | exact LeS.le | exact LeS.add _ | (simp; done) | (simp; omega)) _) | (with_reducible refine Ext.setCell ?_ (by first | exact LeS.le | exact LeS.add _ | (simp; done) | (simp; omega)) _)))), hl, OTA.st' (show OTA 61 39 85 3 (w.heap.size + 1) _ _ _ _ t.base bs t.pr from ((HO.out.setOld _ _ (by dsimp only; omega)).setOld _ _ (by dsimp only; omega)).setOld _ _ (by dsimp only; omega)) HC.out⟩
end Go.Proofs.Yteiemjebdhmnaaa
namespace Go.Proofs.Yteiemjebdhmnaaa
open Go Go.RowKit Go.Proofs

set_option maxHeartbeats 1000000 in
theorem sameStore_same (l : List Ent) (v v' : Value) (w : World) (h : SL (RF Ent.enc) 2 w v l) (h' : SL (RF Ent.enc) 2 w v' l) :
    Calls Try.prog 9 #[v, v'] w fun e w' => e = .returned (.bool true) ∧ Up w w' := by
  obtain ⟨a, cap, rfl, hlen, hc⟩ := h.open
  obtain ⟨a', cap', rfl, _, hc'⟩ := h'.open
  go_enter Try.func9, Try.ntmps9
  go_wp2_with fail
  go_loopw [5] (fun s5 wr => ∃ (k : Nat), s5 = .int .i64 k ∧ k ≤ l.length ∧ Up w wr) (fun s5 _ => l.length - (intOf s5).toNat)
  case atStart => exact ⟨0, rfl, Nat.zero_le _, .of (Ext.refl _)⟩
  case round =>
    obtain ⟨k, rfl, hk, ⟨z, rfl⟩⟩ := hrel
    by_cases hlt : k < l.length
    · obtain ⟨x, hxk⟩ := getElem?_some_of_lt hlt
      obtain ⟨b, off, rfl, hb, hcc⟩ := hc k x hxk
      obtain ⟨b', off', rfl, hb', hdd⟩ := hc' k x hxk
      have c0 : w.cell? ⟨b, off + k * 2, none⟩ = some (.int .i64 x.k) := hcc 0 _ rfl
      have d0 : w.cell? ⟨b', off' + k * 2, none⟩ = some (.int .i64 x.k) := hdd 0 _ rfl
      have c1 : w.cell? ⟨b, off + k * 2 + 1, none⟩ = some (.int .i64 x.v) := hcc 1 _ rfl
      have d1 : w.cell? ⟨b', off' + k * 2 + 1, none⟩ = some (.int .i64 x.v) := hdd 1 _ rfl
      have k0 : (0 : Int) ≤ (k : Int) := by omega
      clear hc hcc hc' hdd hxk
      go_wp2_with fail
      (refine wp_region_up (by kernel_rfl) (by kernel_rfl) ?_; (repeat (go_big_quiet_step (fail))); refine wpQuiet_nil ?_; intro _ hw'; obtain ⟨zq, hw''⟩ := hw'; subst hw'')
      go_wp2_with fail
      go_roundw
      case rel => exact ⟨k + 1, by go_num, by omega, (.of (by repeat (first | (with_reducible exact Ext.refl _) | (with_reducible refine Ext.up ?_ _) | (with_reducible refine Ext.alloc ?_ _) | (with_reducible refine Ext.drew ?_) | (with_reducible refine Ext.setRow ?_ (by first | exact LeS.le | exact LeS.add _ | (simp; done) | (simp; omega)) _) | (with_reducible refine Ext.setCell ?_ (by first | exact LeS.le | exact LeS.add _ | (simp; done) | (simp; omega)) _))))⟩
      case measure => simp [intOf]; omega
    · go_wp2_with fail
      go_ret
      exact ⟨rfl, z, rfl⟩
end Go.Proofs.Yteiemjebdhmnaaa
