/- The law FnExactTreeOf's walk. -/
import Derived.Test.YtknohbdhbjppjaaTOf2
namespace Go.Proofs.Ytknohbdhbjppjaa
open Go Go.RowKit Go.Proofs

set_option maxRecDepth 100000 in
theorem iTreeOf_no (s : List Ent) (v : Value) (w : World) (h : SL (RF Ent.enc) 2 w v s) (hok : entsOk 1 s = false) :
    Calls Try.prog 24 #[v] w fun e w' => e = .returned (.agg #[.slice none 0 0, .slice none 0 0, .slice none 0 0]) ∧ Up w w' := by
  have H := Lib.hid h; clear h
  have kv := fun w v h => iStoreValid_any s v w h
  rw [hok] at kv
  go_enter Try.func24, Try.ntmps24
  go_wp2_with (go_at_call 74; refine (kv _ _ (H.out.up (by repeat (first | (with_reducible exact Ext.refl _) | (with_reducible refine Ext.up ?_ _) | (with_reducible refine Ext.alloc ?_ _) | (with_reducible refine Ext.drew ?_) | (with_reducible refine Ext.setRow ?_ (by first | exact LeS.le | exact LeS.add _ | (simp; done) | (simp; omega)) _) | (with_reducible refine Ext.setCell ?_ (by first | exact LeS.le | exact LeS.add _ | (simp; done) | (simp; omega)) _))))).mono ?_; rintro e w' ⟨rfl, z, rfl⟩)
  refine bodyPost_ret (v := .agg #[.slice none 0 0, .slice none 0 0, .slice none 0 0]) (by simp [results, Try.results24, go_sem]) rfl ?_
  exact ⟨rfl, (.of (by repeat (first | (with_reducible exact Ext.refl _) | (with_reducible refine Ext.up ?_ _) | (with_reducible refine Ext.alloc ?_ _) | (with_reducible refine Ext.drew ?_) | (with_reducible refine Ext.setRow ?_ (by first | exact LeS.le | exact LeS.add _ | (simp; done) | (simp; omega)) _) | (with_reducible refine Ext.setCell ?_ (by first | exact LeS.le | exact LeS.add _ | (simp; done) | (simp; omega)) _))))⟩
set_option maxRecDepth 100000 in
theorem sTreeOf_no (s : List Ent) (v : Value) (w : World) (h : SL (RF Ent.enc) 2 w v s) (hok : entsOk 1 s = false) :
    Calls Try.prog 23 #[v] w fun e w' => e = .returned (.agg #[.slice none 0 0, .slice none 0 0, .slice none 0 0]) ∧ Up w w' := by
  have H := Lib.hid h; clear h
  have kv := fun w v h => sStoreValid_any s v w h
  rw [hok] at kv
  go_enter Try.func23, Try.ntmps23
  go_wp2_with (go_at_call 70; refine (kv _ _ (H.out.up (by repeat (first | (with_reducible exact Ext.refl _) | (with_reducible refine Ext.up ?_ _) | (with_reducible refine Ext.alloc ?_ _) | (with_reducible refine Ext.drew ?_) | (with_reducible refine Ext.setRow ?_ (by first | exact LeS.le | exact LeS.add _ | (simp; done) | (simp; omega)) _) | (with_reducible refine Ext.setCell ?_ (by first | exact LeS.le | exact LeS.add _ | (simp; done) | (simp; omega)) _))))).mono ?_; rintro e w' ⟨rfl, z, rfl⟩)
  refine bodyPost_ret (v := .agg #[.slice none 0 0, .slice none 0 0, .slice none 0 0]) (by simp [results, Try.results23, go_sem]) rfl ?_
  exact ⟨rfl, (.of (by repeat (first | (with_reducible exact Ext.refl _) | (with_reducible refine Ext.up ?_ _) | (with_reducible refine Ext.alloc ?_ _) | (with_reducible refine Ext.drew ?_) | (with_reducible refine Ext.setRow ?_ (by first | exact LeS.le | exact LeS.add _ | (simp; done) | (simp; omega)) _) | (with_reducible refine Ext.setCell ?_ (by first | exact LeS.le | exact LeS.add _ | (simp; done) | (simp; omega)) _))))⟩
theorem st_nil (w : World) : ST w (.slice none 0 0) (.slice none 0 0) (.slice none 0 0) ⟨[], [], []⟩ := ⟨SL.nil _ _ _ _ _, ⟨[], rfl, SL.nil _ _ _ _ _, by simp⟩, SL.nil _ _ _ _ _⟩
theorem eqT0 (w : World) : Calls Try.prog 25 #[.agg #[.slice none 0 0, .slice none 0 0, .slice none 0 0], .agg #[.slice none 0 0, .slice none 0 0, .slice none 0 0]] w fun e w' => e = .returned (.bool true) ∧ Up w w' := eqBlockTree_same _ _ _ _ _ _ _ w (st_nil w) (st_nil w)
theorem markT0 (w : World) : Calls Try.prog 26 #[.agg #[.slice none 0 0, .slice none 0 0, .slice none 0 0], .int .i64 1] w fun e w' => e = .returned (.int .i64 1) ∧ Up w w' := by
  go_enter Try.func26, Try.ntmps26
  go_wp2_with fail
  refine (markEntryS_any 0 [] (.slice none 0 0) 1 _ (Own.nil _ _ _ _ _) (by omega) (by omega) (by simp)).mono ?_; rintro e w' ⟨rfl, hg, _⟩
  obtain ⟨z1, rfl⟩ := Up.of (Ext.grown (Ext.refl _) hg (fun k hk => by cases hk))
  rw [show (1 : Int) + 2 * (([] : List Ent).length : Int) = 1 from rfl]
  go_wp2_with fail
  refine (markBlockS_weak 0 z1.val.heap.size z1.val z1.val [] (.slice none 0 0) 1 ⟨Own.nil _ _ _ _ _, (by simp), List.Pairwise.nil⟩ (fun k hk => by cases hk) (by simp) (Ext.refl _) (Nat.le_refl _) (by omega) (by simp) (by simp [totA])).mono ?_; rintro e w' ⟨rfl, hE2, _⟩
  obtain ⟨z2, rfl⟩ := Up.of hE2
  rw [show (1 : Int) + 5 * (([] : List TB).length : Int) + 4 * (totA (List.map TB.core []) : Int) = 1 from rfl]
  go_wp2_with fail
  refine (markIntS_any 0 [] (.slice none 0 0) 1 _ (Own.nil _ _ _ _ _) (by omega) (by omega) (by simp)).mono ?_; rintro e w' ⟨rfl, hg3, _⟩
  obtain ⟨z3, rfl⟩ := Up.of (Ext.grown (Ext.refl _) hg3 (fun k hk => by cases hk))
  rw [show (1 : Int) + (([] : List Int).length : Int) = 1 from rfl]
  go_wp2_with fail
  go_ret
  exact ⟨rfl, (.of (by repeat (first | (with_reducible exact Ext.refl _) | (with_reducible refine Ext.up ?_ _) | (with_reducible refine Ext.alloc ?_ _) | (with_reducible refine Ext.drew ?_) | (with_reducible refine Ext.setRow ?_ (by first | exact LeS.le | exact LeS.add _ | (simp; done) | (simp; omega)) _) | (with_reducible refine Ext.setCell ?_ (by first | exact LeS.le | exact LeS.add _ | (simp; done) | (simp; omega)) _))))⟩
theorem heldB0 (w : World) : Calls Try.prog 82 #[.slice none 0 0, .int .i64 1] w fun e w' => e = .returned (.int .i64 1) ∧ w = w' := by
  go_enter Try.func82, Try.ntmps82
  go_wp2
  refine wp_loop_rounds 1 ?_; rw [rounds_succ]
  go_wp2
  go_ret
  exact ⟨rfl, rfl⟩
theorem heldT0 (w : World) : Calls Try.prog 27 #[.agg #[.slice none 0 0, .slice none 0 0, .slice none 0 0], .int .i64 1] w fun e w' => e = .returned (.int .i64 1) ∧ Up w w' := by
  have k0 := fun w => heldEntryS_marks 0 (.slice none 0 0) 1 w (SL.nil _ _ _ _ _) (by omega) (by omega) (by omega)
  have k2 := fun w => heldIntS_marks 0 (.slice none 0 0) 1 w (SL.nil _ _ _ _ _) (by omega) (by omega) (by omega)
  rw [show (1 : Int) + 2 * ((0 : Nat) : Int) = 1 from rfl] at k0
  rw [show (1 : Int) + ((0 : Nat) : Int) = 1 from rfl] at k2
  go_enter Try.func27, Try.ntmps27
  go_wp2_with fail
  refine (k0 _).mono ?_; rintro e w' ⟨rfl, rfl⟩
  go_wp2_with fail
  refine (heldB0 _).mono ?_; rintro e w' ⟨rfl, rfl⟩
  go_wp2_with fail
  refine (k2 _).mono ?_; rintro e w' ⟨rfl, rfl⟩
  go_wp2_with fail
  go_ret
  exact ⟨rfl, (.of (by repeat (first | (with_reducible exact Ext.refl _) | (with_reducible refine Ext.up ?_ _) | (with_reducible refine Ext.alloc ?_ _) | (with_reducible refine Ext.drew ?_) | (with_reducible refine Ext.setRow ?_ (by first | exact LeS.le | exact LeS.add _ | (simp; done) | (simp; omega)) _) | (with_reducible refine Ext.setCell ?_ (by first | exact LeS.le | exact LeS.add _ | (simp; done) | (simp; omega)) _))))⟩
theorem OT.keepHi {eE eB eA eI lo hi hk : Nat} {w w' : World} {v0 v1 v2 : Value} {base : List Ent} {bs : List TB} {pr : List Int} (h : OT eE eB eA eI lo hi w v0 v1 v2 base bs pr) (hK : Keep hk w w') (hle : hk ≤ lo) : OT eE eB eA eI lo hi w' v0 v1 v2 base bs pr := by
  obtain ⟨s1, s2, h1, h2, h3, h4, h5, h6, h7, h8, h9, h10⟩ := h
  exact ⟨s1, s2, h1, h2, h3, h4.keepHi hK hle, h5, ⟨h6.1.keepHi hK (by omega), fun x hx => ⟨(h6.2.1 x hx).1.keepHi hK (by omega), (h6.2.1 x hx).2⟩, h6.2.2⟩, h7, h8, h9.keepHi hK (by omega), h10⟩
set_option maxRecDepth 100000 in
set_option maxHeartbeats 2000000 in
theorem FnExactTreeOf_any (s : List Ent) (v : Value) (w : World) (h_s : SL (RF Ent.enc) 2 w v s) :
    Calls Try.prog 4 #[v] w fun e w' => e = .returned (.bool true) ∧ Up w w' := by
  have H := Lib.hid h_s; clear h_s
  have ks := fun w h => szEntryS_any s v 1048576 w h (by omega) (by omega)
  by_cases hz : szOf 1048576 s.length < 0
  · go_enter Try.func4, Try.ntmps4
    go_wp2_with (go_at_call 14; refine (ks _ (H.out.up (by repeat (first | (with_reducible exact Ext.refl _) | (with_reducible refine Ext.up ?_ _) | (with_reducible refine Ext.alloc ?_ _) | (with_reducible refine Ext.drew ?_) | (with_reducible refine Ext.setRow ?_ (by first | exact LeS.le | exact LeS.add _ | (simp; done) | (simp; omega)) _) | (with_reducible refine Ext.setCell ?_ (by first | exact LeS.le | exact LeS.add _ | (simp; done) | (simp; omega)) _))))).mono ?_; rintro e w' ⟨rfl, rfl⟩)
    go_ret
    exact ⟨rfl, (.of (by repeat (first | (with_reducible exact Ext.refl _) | (with_reducible refine Ext.up ?_ _) | (with_reducible refine Ext.alloc ?_ _) | (with_reducible refine Ext.drew ?_) | (with_reducible refine Ext.setRow ?_ (by first | exact LeS.le | exact LeS.add _ | (simp; done) | (simp; omega)) _) | (with_reducible refine Ext.setCell ?_ (by first | exact LeS.le | exact LeS.add _ | (simp; done) | (simp; omega)) _))))⟩
  have hn := szOf_le hz
  have hm : s.length ≤ 1048576 := by omega
  have hz' : 0 ≤ szOf 1048576 s.length := by omega
  generalize szOf 1048576 s.length = q at ks hz'
  clear hz hn
  rcases hok : entsOk 1 s with _ | _
  · go_enter Try.func4, Try.ntmps4
    go_wp2_with (go_at_call 14; refine (ks _ (H.out.up (by repeat (first | (with_reducible exact Ext.refl _) | (with_reducible refine Ext.up ?_ _) | (with_reducible refine Ext.alloc ?_ _) | (with_reducible refine Ext.drew ?_) | (with_reducible refine Ext.setRow ?_ (by first | exact LeS.le | exact LeS.add _ | (simp; done) | (simp; omega)) _) | (with_reducible refine Ext.setCell ?_ (by first | exact LeS.le | exact LeS.add _ | (simp; done) | (simp; omega)) _))))).mono ?_; rintro e w' ⟨rfl, rfl⟩)
    refine (toEntryS_any s _ _ (H.out.up (by repeat (first | (with_reducible exact Ext.refl _) | (with_reducible refine Ext.up ?_ _) | (with_reducible refine Ext.alloc ?_ _) | (with_reducible refine Ext.drew ?_) | (with_reducible refine Ext.setRow ?_ (by first | exact LeS.le | exact LeS.add _ | (simp; done) | (simp; omega)) _) | (with_reducible refine Ext.setCell ?_ (by first | exact LeS.le | exact LeS.add _ | (simp; done) | (simp; omega)) _)))) hm).mono ?_; rintro e w' ⟨y1, rfl, ⟨z1, rfl⟩, o1⟩
    have O1 := Lib.hid o1; clear o1
    go_wp2_with fail
    refine (sTreeOf_no s _ _ ((O1.out.up (by repeat (first | (with_reducible exact Ext.refl _) | (with_reducible refine Ext.up ?_ _) | (with_reducible refine Ext.alloc ?_ _) | (with_reducible refine Ext.drew ?_) | (with_reducible refine Ext.setRow ?_ (by first | exact LeS.le | exact LeS.add _ | (simp; done) | (simp; omega)) _) | (with_reducible refine Ext.setCell ?_ (by first | exact LeS.le | exact LeS.add _ | (simp; done) | (simp; omega)) _)))).sl Ent.enc_length) hok).mono ?_; rintro e w' ⟨rfl, ⟨z2, rfl⟩⟩
    go_wp2_with fail
    refine (toEntryS_any s _ _ (H.out.up (by repeat (first | (with_reducible exact Ext.refl _) | (with_reducible refine Ext.up ?_ _) | (with_reducible refine Ext.alloc ?_ _) | (with_reducible refine Ext.drew ?_) | (with_reducible refine Ext.setRow ?_ (by first | exact LeS.le | exact LeS.add _ | (simp; done) | (simp; omega)) _) | (with_reducible refine Ext.setCell ?_ (by first | exact LeS.le | exact LeS.add _ | (simp; done) | (simp; omega)) _)))) hm).mono ?_; rintro e w' ⟨y2, rfl, ⟨z3, rfl⟩, o2⟩
    have O2 := Lib.hid o2; clear o2
    go_wp2_with fail
    refine (iTreeOf_no s _ _ ((O2.out.up (by repeat (first | (with_reducible exact Ext.refl _) | (with_reducible refine Ext.up ?_ _) | (with_reducible refine Ext.alloc ?_ _) | (with_reducible refine Ext.drew ?_) | (with_reducible refine Ext.setRow ?_ (by first | exact LeS.le | exact LeS.add _ | (simp; done) | (simp; omega)) _) | (with_reducible refine Ext.setCell ?_ (by first | exact LeS.le | exact LeS.add _ | (simp; done) | (simp; omega)) _)))).sl Ent.enc_length) hok).mono ?_; rintro e w' ⟨rfl, ⟨z4, rfl⟩⟩
    go_wp2_with fail
    refine (eqT0 _).mono ?_; rintro e w' ⟨rfl, ⟨z5, rfl⟩⟩
    go_wp2_with fail
    refine (toEntryS_any s _ _ (H.out.up (by repeat (first | (with_reducible exact Ext.refl _) | (with_reducible refine Ext.up ?_ _) | (with_reducible refine Ext.alloc ?_ _) | (with_reducible refine Ext.drew ?_) | (with_reducible refine Ext.setRow ?_ (by first | exact LeS.le | exact LeS.add _ | (simp; done) | (simp; omega)) _) | (with_reducible refine Ext.setCell ?_ (by first | exact LeS.le | exact LeS.add _ | (simp; done) | (simp; omega)) _)))) hm).mono ?_; rintro e w' ⟨y3, rfl, ⟨z6, rfl⟩, o3⟩
    have O3 := Lib.hid o3; clear o3
    go_wp2_with fail
    refine (eqEntryS_same s _ _ _ ((O2.out.up (by repeat (first | (with_reducible exact Ext.refl _) | (with_reducible refine Ext.up ?_ _) | (with_reducible refine Ext.alloc ?_ _) | (with_reducible refine Ext.drew ?_) | (with_reducible refine Ext.setRow ?_ (by first | exact LeS.le | exact LeS.add _ | (simp; done) | (simp; omega)) _) | (with_reducible refine Ext.setCell ?_ (by first | exact LeS.le | exact LeS.add _ | (simp; done) | (simp; omega)) _)))).sl Ent.enc_length) ((O3.out.up (by repeat (first | (with_reducible exact Ext.refl _) | (with_reducible refine Ext.up ?_ _) | (with_reducible refine Ext.alloc ?_ _) | (with_reducible refine Ext.drew ?_) | (with_reducible refine Ext.setRow ?_ (by first | exact LeS.le | exact LeS.add _ | (simp; done) | (simp; omega)) _) | (with_reducible refine Ext.setCell ?_ (by first | exact LeS.le | exact LeS.add _ | (simp; done) | (simp; omega)) _)))).sl Ent.enc_length)).mono ?_; rintro e w' ⟨rfl, ⟨z7, rfl⟩⟩
    go_wp2_with fail
    refine (markEntryS_any _ s _ _ _ (O2.out.up (by repeat (first | (with_reducible exact Ext.refl _) | (with_reducible refine Ext.up ?_ _) | (with_reducible refine Ext.alloc ?_ _) | (with_reducible refine Ext.drew ?_) | (with_reducible refine Ext.setRow ?_ (by first | exact LeS.le | exact LeS.add _ | (simp; done) | (simp; omega)) _) | (with_reducible refine Ext.setCell ?_ (by first | exact LeS.le | exact LeS.add _ | (simp; done) | (simp; omega)) _)))) (by omega) (by omega) (by omega)).mono ?_; rintro e w8 ⟨rfl, hg, _⟩
    have E : Ext _ w8 := Own.ext_grown (O2.out.up (by repeat (first | (with_reducible exact Ext.refl _) | (with_reducible refine Ext.up ?_ _) | (with_reducible refine Ext.alloc ?_ _) | (with_reducible refine Ext.drew ?_) | (with_reducible refine Ext.setRow ?_ (by first | exact LeS.le | exact LeS.add _ | (simp; done) | (simp; omega)) _) | (with_reducible refine Ext.setCell ?_ (by first | exact LeS.le | exact LeS.add _ | (simp; done) | (simp; omega)) _)))) (z3.ext.trans (show Ext z3.val z7.val from (by repeat (first | (with_reducible exact Ext.refl _) | (with_reducible refine Ext.up ?_ _) | (with_reducible refine Ext.alloc ?_ _) | (with_reducible refine Ext.drew ?_) | (with_reducible refine Ext.setRow ?_ (by first | exact LeS.le | exact LeS.add _ | (simp; done) | (simp; omega)) _) | (with_reducible refine Ext.setCell ?_ (by first | exact LeS.le | exact LeS.add _ | (simp; done) | (simp; omega)) _))))) (Nat.le_refl _) hg
    have l2 := fun k hk => World.ownsRow.lt O2.out k hk
    have hbr := hg.block z4.val.heap.size LtS.lt (fun e => by have := (l2 _ (by first | exact e | exact e.symm)).2; have h4 := z4.ext.size; omega)
    have cr0 : w8.cell? ⟨z4.val.heap.size, 0, none⟩ = some (.slice none 0 0) := (cell_blk hbr 0).trans (by go_simp)
    have cr1 : w8.cell? ⟨z4.val.heap.size, 1, none⟩ = some (.slice none 0 0) := (cell_blk hbr 1).trans (by go_simp)
    have cr2 : w8.cell? ⟨z4.val.heap.size, 2, none⟩ = some (.slice none 0 0) := (cell_blk hbr 2).trans (by go_simp)
    have Lr : LtS z4.val.heap.size w8 := LtS.of_some cr0
    clear hg hbr l2
    obtain ⟨z8, rfl⟩ := Up.of E
    go_wp2_with fail
    refine (eqT0 _).mono ?_; rintro e w' ⟨rfl, ⟨z9, rfl⟩⟩
    go_wp2_with fail
    refine (markT0 _).mono ?_; rintro e w' ⟨rfl, ⟨z10, rfl⟩⟩
    go_wp2_with fail
    refine (heldT0 _).mono ?_; rintro e w' ⟨rfl, ⟨z11, rfl⟩⟩
    go_wp2_with fail
    refine (toEntryS_any s _ _ (H.out.up (by repeat (first | (with_reducible exact Ext.refl _) | (with_reducible refine Ext.up ?_ _) | (with_reducible refine Ext.alloc ?_ _) | (with_reducible refine Ext.drew ?_) | (with_reducible refine Ext.setRow ?_ (by first | exact LeS.le | exact LeS.add _ | (simp; done) | (simp; omega)) _) | (with_reducible refine Ext.setCell ?_ (by first | exact LeS.le | exact LeS.add _ | (simp; done) | (simp; omega)) _)))) hm).mono ?_; rintro e w' ⟨y4, rfl, ⟨z12, rfl⟩, o4⟩
    have O4 := Lib.hid o4; clear o4
    go_wp2_with fail
    refine (iTreeOf_no s _ _ ((O4.out.up (by repeat (first | (with_reducible exact Ext.refl _) | (with_reducible refine Ext.up ?_ _) | (with_reducible refine Ext.alloc ?_ _) | (with_reducible refine Ext.drew ?_) | (with_reducible refine Ext.setRow ?_ (by first | exact LeS.le | exact LeS.add _ | (simp; done) | (simp; omega)) _) | (with_reducible refine Ext.setCell ?_ (by first | exact LeS.le | exact LeS.add _ | (simp; done) | (simp; omega)) _)))).sl Ent.enc_length) hok).mono ?_; rintro e w' ⟨rfl, ⟨z13, rfl⟩⟩
    go_wp2_with fail
    refine (eqT0 _).mono ?_; rintro e w' ⟨rfl, ⟨z14, rfl⟩⟩
    go_wp2_with fail
    refine (heldT0 _).mono ?_; rintro e w' ⟨rfl, ⟨z15, rfl⟩⟩
    go_wp2_with fail
    go_ret
    exact ⟨rfl, (.of (by repeat (first | (with_reducible exact Ext.refl _) | (with_reducible refine Ext.up ?_ _) | (with_reducible refine Ext.alloc ?_ _) | (with_reducible refine Ext.drew ?_) | (with_reducible refine Ext.setRow ?_ (by first | exact LeS.le | exact LeS.add _ | (simp; done) | (simp; omega)) _) | (with_reducible refine Ext.setCell ?_ (by first | exact LeS.le | exact LeS.add _ | (simp; done) | (simp; omega)) _))))⟩
  · have ht : treeOf s = ⟨s, [(firstB s, [])], [-1]⟩ := by unfold treeOf; rw [hok]; rfl
    have kS := fun v w h => sTreeOf_any s v w h hm
    have kI := fun v w h => iTreeOf_any s v w h hm
    rw [ht] at kS kI
    have hST := fun (w : World) (v0 v1 v2 : Value) (lo hi : Nat) (bs : List TB) (h : OT 97 26 86 3 lo hi w v0 v1 v2 s bs [-1]) (hb : bs.map TB.core = [(firstB s, [])]) => OT.st' (t := ⟨s, [(firstB s, [])], [-1]⟩) h hb
    go_enter Try.func4, Try.ntmps4
    go_wp2_with (go_at_call 14; refine (ks _ (H.out.up (by repeat (first | (with_reducible exact Ext.refl _) | (with_reducible refine Ext.up ?_ _) | (with_reducible refine Ext.alloc ?_ _) | (with_reducible refine Ext.drew ?_) | (with_reducible refine Ext.setRow ?_ (by first | exact LeS.le | exact LeS.add _ | (simp; done) | (simp; omega)) _) | (with_reducible refine Ext.setCell ?_ (by first | exact LeS.le | exact LeS.add _ | (simp; done) | (simp; omega)) _))))).mono ?_; rintro e w' ⟨rfl, rfl⟩)
    refine (toEntryS_any s _ _ (H.out.up (by repeat (first | (with_reducible exact Ext.refl _) | (with_reducible refine Ext.up ?_ _) | (with_reducible refine Ext.alloc ?_ _) | (with_reducible refine Ext.drew ?_) | (with_reducible refine Ext.setRow ?_ (by first | exact LeS.le | exact LeS.add _ | (simp; done) | (simp; omega)) _) | (with_reducible refine Ext.setCell ?_ (by first | exact LeS.le | exact LeS.add _ | (simp; done) | (simp; omega)) _)))) hm).mono ?_; rintro e w' ⟨y1, rfl, ⟨z1, rfl⟩, o1⟩
    have O1 := Lib.hid o1; clear o1
    go_wp2_with fail
    refine (kS _ _ ((O1.out.up (by repeat (first | (with_reducible exact Ext.refl _) | (with_reducible refine Ext.up ?_ _) | (with_reducible refine Ext.alloc ?_ _) | (with_reducible refine Ext.drew ?_) | (with_reducible refine Ext.setRow ?_ (by first | exact LeS.le | exact LeS.add _ | (simp; done) | (simp; omega)) _) | (with_reducible refine Ext.setCell ?_ (by first | exact LeS.le | exact LeS.add _ | (simp; done) | (simp; omega)) _)))).sl Ent.enc_length)).mono ?_; rintro e w' ⟨a0, a1, a2, bsa, rfl, ⟨z2, rfl⟩, hba, _, _, oa⟩
    have SW := hST _ _ _ _ _ _ _ oa hba
    obtain ⟨pa0, ca0, rfl, _, _⟩ := SW.base.openc
    obtain ⟨pa1, ca1, rfl, _, _⟩ := SW.bs.openc
    obtain ⟨pa2, ca2, rfl, _, _⟩ := SW.pr.openc
    have SA := Lib.hid SW; clear SW oa hba
    go_wp2_with fail
    refine (toEntryS_any s _ _ (H.out.up (by repeat (first | (with_reducible exact Ext.refl _) | (with_reducible refine Ext.up ?_ _) | (with_reducible refine Ext.alloc ?_ _) | (with_reducible refine Ext.drew ?_) | (with_reducible refine Ext.setRow ?_ (by first | exact LeS.le | exact LeS.add _ | (simp; done) | (simp; omega)) _) | (with_reducible refine Ext.setCell ?_ (by first | exact LeS.le | exact LeS.add _ | (simp; done) | (simp; omega)) _)))) hm).mono ?_; rintro e w' ⟨y2, rfl, ⟨z3, rfl⟩, o2⟩
    have O2 := Lib.hid o2; clear o2
    go_wp2_with fail
    refine (kI _ _ ((O2.out.up (by repeat (first | (with_reducible exact Ext.refl _) | (with_reducible refine Ext.up ?_ _) | (with_reducible refine Ext.alloc ?_ _) | (with_reducible refine Ext.drew ?_) | (with_reducible refine Ext.setRow ?_ (by first | exact LeS.le | exact LeS.add _ | (simp; done) | (simp; omega)) _) | (with_reducible refine Ext.setCell ?_ (by first | exact LeS.le | exact LeS.add _ | (simp; done) | (simp; omega)) _)))).sl Ent.enc_length)).mono ?_; rintro e w' ⟨b0, b1, b2, bsb, rfl, ⟨z4, rfl⟩, hbb, hb1, _, ob⟩
    obtain rfl := hb1 hok
    have SG := hST _ _ _ _ _ _ _ ob hbb
    obtain ⟨pb0, cb0, rfl, _, _⟩ := SG.base.openc
    obtain ⟨pb1, cb1, rfl, _, _⟩ := SG.bs.openc
    obtain ⟨pb2, cb2, rfl, _, _⟩ := SG.pr.openc
    have SB1 := Lib.hid SG; have OB1 := Lib.hid ob; clear SG ob hbb hb1
    go_wp2_with fail
    refine (eqBlockTree_same _ _ _ _ _ _ _ _ (SB1.out.up (by repeat (first | (with_reducible exact Ext.refl _) | (with_reducible refine Ext.up ?_ _) | (with_reducible refine Ext.alloc ?_ _) | (with_reducible refine Ext.drew ?_) | (with_reducible refine Ext.setRow ?_ (by first | exact LeS.le | exact LeS.add _ | (simp; done) | (simp; omega)) _) | (with_reducible refine Ext.setCell ?_ (by first | exact LeS.le | exact LeS.add _ | (simp; done) | (simp; omega)) _)))) (SA.out.up (by repeat (first | (with_reducible exact Ext.refl _) | (with_reducible refine Ext.up ?_ _) | (with_reducible refine Ext.alloc ?_ _) | (with_reducible refine Ext.drew ?_) | (with_reducible refine Ext.setRow ?_ (by first | exact LeS.le | exact LeS.add _ | (simp; done) | (simp; omega)) _) | (with_reducible refine Ext.setCell ?_ (by first | exact LeS.le | exact LeS.add _ | (simp; done) | (simp; omega)) _))))).mono ?_; rintro e w' ⟨rfl, ⟨z5, rfl⟩⟩
    go_wp2_with fail
    refine (toEntryS_any s _ _ (H.out.up (by repeat (first | (with_reducible exact Ext.refl _) | (with_reducible refine Ext.up ?_ _) | (with_reducible refine Ext.alloc ?_ _) | (with_reducible refine Ext.drew ?_) | (with_reducible refine Ext.setRow ?_ (by first | exact LeS.le | exact LeS.add _ | (simp; done) | (simp; omega)) _) | (with_reducible refine Ext.setCell ?_ (by first | exact LeS.le | exact LeS.add _ | (simp; done) | (simp; omega)) _)))) hm).mono ?_; rintro e w' ⟨y3, rfl, ⟨z6, rfl⟩, o3⟩
    have O3 := Lib.hid o3; clear o3
    go_wp2_with fail
    refine (eqEntryS_same s _ _ _ ((O2.out.up (by repeat (first | (with_reducible exact Ext.refl _) | (with_reducible refine Ext.up ?_ _) | (with_reducible refine Ext.alloc ?_ _) | (with_reducible refine Ext.drew ?_) | (with_reducible refine Ext.setRow ?_ (by first | exact LeS.le | exact LeS.add _ | (simp; done) | (simp; omega)) _) | (with_reducible refine Ext.setCell ?_ (by first | exact LeS.le | exact LeS.add _ | (simp; done) | (simp; omega)) _)))).sl Ent.enc_length) ((O3.out.up (by repeat (first | (with_reducible exact Ext.refl _) | (with_reducible refine Ext.up ?_ _) | (with_reducible refine Ext.alloc ?_ _) | (with_reducible refine Ext.drew ?_) | (with_reducible refine Ext.setRow ?_ (by first | exact LeS.le | exact LeS.add _ | (simp; done) | (simp; omega)) _) | (with_reducible refine Ext.setCell ?_ (by first | exact LeS.le | exact LeS.add _ | (simp; done) | (simp; omega)) _)))).sl Ent.enc_length)).mono ?_; rintro e w' ⟨rfl, ⟨z7, rfl⟩⟩
    go_wp2_with fail
    refine (markEntryS_any _ s _ _ _ (O2.out.up (by repeat (first | (with_reducible exact Ext.refl _) | (with_reducible refine Ext.up ?_ _) | (with_reducible refine Ext.alloc ?_ _) | (with_reducible refine Ext.drew ?_) | (with_reducible refine Ext.setRow ?_ (by first | exact LeS.le | exact LeS.add _ | (simp; done) | (simp; omega)) _) | (with_reducible refine Ext.setCell ?_ (by first | exact LeS.le | exact LeS.add _ | (simp; done) | (simp; omega)) _)))) (by omega) (by omega) (by omega)).mono ?_; rintro e w8 ⟨rfl, hg, _⟩
    have E : Ext _ w8 := Own.ext_grown (O2.out.up (by repeat (first | (with_reducible exact Ext.refl _) | (with_reducible refine Ext.up ?_ _) | (with_reducible refine Ext.alloc ?_ _) | (with_reducible refine Ext.drew ?_) | (with_reducible refine Ext.setRow ?_ (by first | exact LeS.le | exact LeS.add _ | (simp; done) | (simp; omega)) _) | (with_reducible refine Ext.setCell ?_ (by first | exact LeS.le | exact LeS.add _ | (simp; done) | (simp; omega)) _)))) (z3.ext.trans (show Ext z3.val z7.val from (by repeat (first | (with_reducible exact Ext.refl _) | (with_reducible refine Ext.up ?_ _) | (with_reducible refine Ext.alloc ?_ _) | (with_reducible refine Ext.drew ?_) | (with_reducible refine Ext.setRow ?_ (by first | exact LeS.le | exact LeS.add _ | (simp; done) | (simp; omega)) _) | (with_reducible refine Ext.setCell ?_ (by first | exact LeS.le | exact LeS.add _ | (simp; done) | (simp; omega)) _))))) (Nat.le_refl _) hg
    have l2 := fun k hk => World.ownsRow.lt O2.out k hk
    have hbr := hg.block z4.val.heap.size LtS.lt (fun e => by have := (l2 _ (by first | exact e | exact e.symm)).2; have h4 := z4.ext.size; omega)
    have cr0 : w8.cell? ⟨z4.val.heap.size, 0, none⟩ = some (.slice pb0 s.length cb0) := (cell_blk hbr 0).trans (by go_simp)
    have cr1 : w8.cell? ⟨z4.val.heap.size, 1, none⟩ = some (.slice pb1 1 cb1) := (cell_blk hbr 1).trans (by go_simp)
    have cr2 : w8.cell? ⟨z4.val.heap.size, 2, none⟩ = some (.slice pb2 1 cb2) := (cell_blk hbr 2).trans (by go_simp)
    have Lr : LtS z4.val.heap.size w8 := LtS.of_some cr0
    have K8 := Keep.grown (hi := z3.val.heap.size) hg (fun k hk => (l2 k hk).2)
    have G8 := Lib.hid (OT.keepHi (OB1.out.up (w' := z7.val) (by repeat (first | (with_reducible exact Ext.refl _) | (with_reducible refine Ext.up ?_ _) | (with_reducible refine Ext.alloc ?_ _) | (with_reducible refine Ext.drew ?_) | (with_reducible refine Ext.setRow ?_ (by first | exact LeS.le | exact LeS.add _ | (simp; done) | (simp; omega)) _) | (with_reducible refine Ext.setCell ?_ (by first | exact LeS.le | exact LeS.add _ | (simp; done) | (simp; omega)) _)))) K8 LeS.le)
    clear hg hbr l2 K8
    obtain ⟨z8, rfl⟩ := Up.of E
    have T8 := Lib.hid (hST _ _ _ _ _ _ _ G8.out rfl)
    go_wp2_with fail
    refine (eqBlockTree_same _ _ _ _ _ _ _ _ T8.out (SA.out.up (by repeat (first | (with_reducible exact Ext.refl _) | (with_reducible refine Ext.up ?_ _) | (with_reducible refine Ext.alloc ?_ _) | (with_reducible refine Ext.drew ?_) | (with_reducible refine Ext.setRow ?_ (by first | exact LeS.le | exact LeS.add _ | (simp; done) | (simp; omega)) _) | (with_reducible refine Ext.setCell ?_ (by first | exact LeS.le | exact LeS.add _ | (simp; done) | (simp; omega)) _))))).mono ?_; rintro e w' ⟨rfl, ⟨z9, rfl⟩⟩
    go_wp2_with fail
    refine (markTree_one _ _ _ _ s s _ _ _ (G8.out.up (by repeat (first | (with_reducible exact Ext.refl _) | (with_reducible refine Ext.up ?_ _) | (with_reducible refine Ext.alloc ?_ _) | (with_reducible refine Ext.drew ?_) | (with_reducible refine Ext.setRow ?_ (by first | exact LeS.le | exact LeS.add _ | (simp; done) | (simp; omega)) _) | (with_reducible refine Ext.setCell ?_ (by first | exact LeS.le | exact LeS.add _ | (simp; done) | (simp; omega)) _)))) (z8.ext.trans (show Ext z8.val z9.val from (by repeat (first | (with_reducible exact Ext.refl _) | (with_reducible refine Ext.up ?_ _) | (with_reducible refine Ext.alloc ?_ _) | (with_reducible refine Ext.drew ?_) | (with_reducible refine Ext.setRow ?_ (by first | exact LeS.le | exact LeS.add _ | (simp; done) | (simp; omega)) _) | (with_reducible refine Ext.setCell ?_ (by first | exact LeS.le | exact LeS.add _ | (simp; done) | (simp; omega)) _))))) LeS.le hm (by have h1 := z9.ext.size; have h2 := Lr.lt; omega)).mono ?_; rintro e w10 ⟨rfl, hE10, hK10, m0, m1, m2⟩
    have hsz : z4.val.heap.size < z9.val.heap.size := by have h1 := z9.ext.size; have h2 := Lr.lt; omega
    have hbx := hK10.2 z4.val.heap.size (Nat.le_refl _) hsz
    have cx0 : w10.cell? ⟨z4.val.heap.size, 0, none⟩ = some (.slice pb0 s.length cb0) := (cell_blk hbx 0).trans (by go_simp)
    have cx1 : w10.cell? ⟨z4.val.heap.size, 1, none⟩ = some (.slice pb1 1 cb1) := (cell_blk hbx 1).trans (by go_simp)
    have cx2 : w10.cell? ⟨z4.val.heap.size, 2, none⟩ = some (.slice pb2 1 cb2) := (cell_blk hbx 2).trans (by go_simp)
    have Lx : LtS z4.val.heap.size w10 := LtS.of_some cx0
    have M0 := Lib.hid m0; have M1 := Lib.hid m1; have M2 := Lib.hid m2
    clear hK10 hbx m0 m1 m2 hsz
    obtain ⟨z10, rfl⟩ := Up.of hE10
    clear hE10
    go_wp2_with fail
    refine (heldTree_one s.length _ _ _ _ hm (M0.out.up (by repeat (first | (with_reducible exact Ext.refl _) | (with_reducible refine Ext.up ?_ _) | (with_reducible refine Ext.alloc ?_ _) | (with_reducible refine Ext.drew ?_) | (with_reducible refine Ext.setRow ?_ (by first | exact LeS.le | exact LeS.add _ | (simp; done) | (simp; omega)) _) | (with_reducible refine Ext.setCell ?_ (by first | exact LeS.le | exact LeS.add _ | (simp; done) | (simp; omega)) _)))) (M1.out.up (by repeat (first | (with_reducible exact Ext.refl _) | (with_reducible refine Ext.up ?_ _) | (with_reducible refine Ext.alloc ?_ _) | (with_reducible refine Ext.drew ?_) | (with_reducible refine Ext.setRow ?_ (by first | exact LeS.le | exact LeS.add _ | (simp; done) | (simp; omega)) _) | (with_reducible refine Ext.setCell ?_ (by first | exact LeS.le | exact LeS.add _ | (simp; done) | (simp; omega)) _)))) (M2.out.up (by repeat (first | (with_reducible exact Ext.refl _) | (with_reducible refine Ext.up ?_ _) | (with_reducible refine Ext.alloc ?_ _) | (with_reducible refine Ext.drew ?_) | (with_reducible refine Ext.setRow ?_ (by first | exact LeS.le | exact LeS.add _ | (simp; done) | (simp; omega)) _) | (with_reducible refine Ext.setCell ?_ (by first | exact LeS.le | exact LeS.add _ | (simp; done) | (simp; omega)) _))))).mono ?_; rintro e w' ⟨rfl, ⟨z11, rfl⟩⟩
    go_wp2_with fail
    refine (toEntryS_any s _ _ (H.out.up (by repeat (first | (with_reducible exact Ext.refl _) | (with_reducible refine Ext.up ?_ _) | (with_reducible refine Ext.alloc ?_ _) | (with_reducible refine Ext.drew ?_) | (with_reducible refine Ext.setRow ?_ (by first | exact LeS.le | exact LeS.add _ | (simp; done) | (simp; omega)) _) | (with_reducible refine Ext.setCell ?_ (by first | exact LeS.le | exact LeS.add _ | (simp; done) | (simp; omega)) _)))) hm).mono ?_; rintro e w' ⟨y4, rfl, ⟨z12, rfl⟩, o4⟩
    have O4 := Lib.hid o4; clear o4
    go_wp2_with fail
    refine (kI _ _ ((O4.out.up (by repeat (first | (with_reducible exact Ext.refl _) | (with_reducible refine Ext.up ?_ _) | (with_reducible refine Ext.alloc ?_ _) | (with_reducible refine Ext.drew ?_) | (with_reducible refine Ext.setRow ?_ (by first | exact LeS.le | exact LeS.add _ | (simp; done) | (simp; omega)) _) | (with_reducible refine Ext.setCell ?_ (by first | exact LeS.le | exact LeS.add _ | (simp; done) | (simp; omega)) _)))).sl Ent.enc_length)).mono ?_; rintro e w' ⟨d0, d1, d2, bsd, rfl, ⟨z13, rfl⟩, hbd, _, _, od⟩
    have SH := hST _ _ _ _ _ _ _ od hbd
    obtain ⟨pd0, cd0, rfl, _, _⟩ := SH.base.openc
    obtain ⟨pd1, cd1, rfl, _, _⟩ := SH.bs.openc
    obtain ⟨pd2, cd2, rfl, _, _⟩ := SH.pr.openc
    have SD := Lib.hid SH; clear SH od hbd
    go_wp2_with fail
    refine (eqBlockTree_same _ _ _ _ _ _ _ _ (SD.out.up (by repeat (first | (with_reducible exact Ext.refl _) | (with_reducible refine Ext.up ?_ _) | (with_reducible refine Ext.alloc ?_ _) | (with_reducible refine Ext.drew ?_) | (with_reducible refine Ext.setRow ?_ (by first | exact LeS.le | exact LeS.add _ | (simp; done) | (simp; omega)) _) | (with_reducible refine Ext.setCell ?_ (by first | exact LeS.le | exact LeS.add _ | (simp; done) | (simp; omega)) _)))) (SA.out.up (by repeat (first | (with_reducible exact Ext.refl _) | (with_reducible refine Ext.up ?_ _) | (with_reducible refine Ext.alloc ?_ _) | (with_reducible refine Ext.drew ?_) | (with_reducible refine Ext.setRow ?_ (by first | exact LeS.le | exact LeS.add _ | (simp; done) | (simp; omega)) _) | (with_reducible refine Ext.setCell ?_ (by first | exact LeS.le | exact LeS.add _ | (simp; done) | (simp; omega)) _))))).mono ?_; rintro e w' ⟨rfl, ⟨z14, rfl⟩⟩
    go_wp2_with fail
    refine (heldTree_one s.length _ _ _ _ hm (M0.out.up (by repeat (first | (with_reducible exact Ext.refl _) | (with_reducible refine Ext.up ?_ _) | (with_reducible refine Ext.alloc ?_ _) | (with_reducible refine Ext.drew ?_) | (with_reducible refine Ext.setRow ?_ (by first | exact LeS.le | exact LeS.add _ | (simp; done) | (simp; omega)) _) | (with_reducible refine Ext.setCell ?_ (by first | exact LeS.le | exact LeS.add _ | (simp; done) | (simp; omega)) _)))) (M1.out.up (by repeat (first | (with_reducible exact Ext.refl _) | (with_reducible refine Ext.up ?_ _) | (with_reducible refine Ext.alloc ?_ _) | (with_reducible refine Ext.drew ?_) | (with_reducible refine Ext.setRow ?_ (by first | exact LeS.le | exact LeS.add _ | (simp; done) | (simp; omega)) _) | (with_reducible refine Ext.setCell ?_ (by first | exact LeS.le | exact LeS.add _ | (simp; done) | (simp; omega)) _)))) (M2.out.up (by repeat (first | (with_reducible exact Ext.refl _) | (with_reducible refine Ext.up ?_ _) | (with_reducible refine Ext.alloc ?_ _) | (with_reducible refine Ext.drew ?_) | (with_reducible refine Ext.setRow ?_ (by first | exact LeS.le | exact LeS.add _ | (simp; done) | (simp; omega)) _) | (with_reducible refine Ext.setCell ?_ (by first | exact LeS.le | exact LeS.add _ | (simp; done) | (simp; omega)) _))))).mono ?_; rintro e w' ⟨rfl, ⟨z15, rfl⟩⟩
    go_wp2_with fail
    go_ret
    exact ⟨rfl, (.of (by repeat (first | (with_reducible exact Ext.refl _) | (with_reducible refine Ext.up ?_ _) | (with_reducible refine Ext.alloc ?_ _) | (with_reducible refine Ext.drew ?_) | (with_reducible refine Ext.setRow ?_ (by first | exact LeS.le | exact LeS.add _ | (simp; done) | (simp; omega)) _) | (with_reducible refine Ext.setCell ?_ (by first | exact LeS.le | exact LeS.add _ | (simp; done) | (simp; omega)) _))))⟩
end Go.Proofs.Ytknohbdhbjppjaa
