/- The law FnExactFirstBlock's walk. -/
import Derived.Test.YtknohbdhbjppjaaFst
namespace Go.Proofs.Ytknohbdhbjppjaa
open Go Go.RowKit Go.Proofs

theorem markBlock_nil (b : Blk) (a : Option Addr) (c : Nat) (m : Int) (w : World) (hm0 : 0 ≤ m) (hm1 : m ≤ 1000000000) : Calls Try.prog 21 #[b.agg (.slice none 0 0), .int .i64 m] w fun e w' => e = .returned (.int .i64 m) ∧ Up w w' := by
  unfold Blk.agg
  go_enter Try.func21, Try.ntmps21
  go_wp2_with fail
  refine (markActionS_any 0 [] (.slice none 0 0) m _ (Own.nil _ _ _ _ _) hm0 hm1 (by simp)).mono ?_; rintro e w' ⟨rfl, hg, _⟩
  obtain ⟨z, rfl⟩ := Up.of (Ext.grown (Ext.refl _) hg (fun k hk => by cases hk))
  go_wp2_with fail
  go_ret
  exact ⟨by simp, (.of (by repeat (first | exact Ext.refl _ | refine Ext.up ?_ _ | refine Ext.alloc ?_ _ | refine Ext.drew ?_ | refine Ext.setRow ?_ (by first | (dsimp only; omega) | exact LeS.le | exact LeS.add _ | (simp; done) | (simp; omega)) _ | refine Ext.setCell ?_ (by first | (dsimp only; omega) | exact LeS.le | exact LeS.add _ | (simp; done) | (simp; omega)) _)))⟩
theorem heldBlock_nil (b : Blk) (m : Int) (w : World) (hm0 : 0 ≤ m) (hm1 : m ≤ 1000000000) : Calls Try.prog 22 #[b.agg (.slice none 0 0), .int .i64 m] w fun e w' => e = .returned (.int .i64 m) ∧ Up w w' := by
  unfold Blk.agg
  have k0 := fun w => heldActionS_marks 0 (.slice none 0 0) m w (SL.nil _ _ _ _ _) hm0 hm1 (by simp)
  have e0 : m + 4 * ((0 : Nat) : Int) = m := by omega
  rw [e0] at k0
  go_enter Try.func22, Try.ntmps22
  go_wp2_with (go_at_call 78; refine (k0 _).mono ?_; rintro e w' ⟨rfl, rfl⟩)
  go_ret
  exact ⟨rfl, (.of (by repeat (first | exact Ext.refl _ | refine Ext.up ?_ _ | refine Ext.alloc ?_ _ | refine Ext.drew ?_ | refine Ext.setRow ?_ (by first | (dsimp only; omega) | exact LeS.le | exact LeS.add _ | (simp; done) | (simp; omega)) _ | refine Ext.setCell ?_ (by first | (dsimp only; omega) | exact LeS.le | exact LeS.add _ | (simp; done) | (simp; omega)) _)))⟩
theorem cell_blk {w w' : World} {b : Nat} (h : w'.heap[b]? = w.heap[b]?) (i : Nat) : w'.cell? ⟨b, i, none⟩ = w.cell? ⟨b, i, none⟩ := by
  simp only [World.cell?, h]
theorem sFB (s : List Ent) (v : Value) (w : World) (h : SL (RF Ent.enc) 2 w v s) : Calls Try.prog 15 #[v] w fun e w' => e = .returned (.agg #[.int .i64 (firstB s).bf, .int .i64 (firstB s).ht, .int .i64 (firstB s).vw, .slice none 0 0, .int .i64 (firstB s).rt, .int .i64 (firstB s).ef]) ∧ Up w w' := sFirstBlock_any s v w h
theorem iFB (s : List Ent) (v : Value) (w : World) (h : SL (RF Ent.enc) 2 w v s) : Calls Try.prog 17 #[v] w fun e w' => e = .returned (.agg #[.int .i64 (firstB s).bf, .int .i64 (firstB s).ht, .int .i64 (firstB s).vw, .slice none 0 0, .int .i64 (firstB s).rt, .int .i64 (firstB s).ef]) ∧ Up w w' := iFirstBlock_any s v w h
theorem eqB0 (b : Blk) (w : World) : Calls Try.prog 18 #[b.agg (.slice none 0 0), b.agg (.slice none 0 0)] w fun e w' => e = .returned (.bool true) ∧ Up w w' := eqBlock_same b [] _ _ w (SL.nil _ _ _ _ _) (SL.nil _ _ _ _ _)
set_option maxHeartbeats 2000000 in
theorem FnExactFirstBlock_any (s : List Ent) (v : Value) (w : World) (h_s : SL (RF Ent.enc) 2 w v s) :
    Calls Try.prog 3 #[v] w fun e w' => e = .returned (.bool true) ∧ Up w w' := by
  have H := Lib.hid h_s; clear h_s
  have ks := fun w h => szEntryS_any s v 1048576 w h (by omega) (by omega)
  by_cases hz : szOf 1048576 s.length < 0
  · go_enter Try.func3, Try.ntmps3
    go_wp2_with (go_at_call 14; refine (ks _ (H.out.up (by repeat (first | (with_reducible exact Ext.refl _) | (with_reducible refine Ext.up ?_ _) | (with_reducible refine Ext.alloc ?_ _) | (with_reducible refine Ext.drew ?_) | (with_reducible refine Ext.setRow ?_ (by first | exact LeS.le | exact LeS.add _ | (simp; done) | (simp; omega)) _) | (with_reducible refine Ext.setCell ?_ (by first | exact LeS.le | exact LeS.add _ | (simp; done) | (simp; omega)) _))))).mono ?_; rintro e w' ⟨rfl, rfl⟩)
    go_ret
    exact ⟨rfl, (.of (by repeat (first | (with_reducible exact Ext.refl _) | (with_reducible refine Ext.up ?_ _) | (with_reducible refine Ext.alloc ?_ _) | (with_reducible refine Ext.drew ?_) | (with_reducible refine Ext.setRow ?_ (by first | exact LeS.le | exact LeS.add _ | (simp; done) | (simp; omega)) _) | (with_reducible refine Ext.setCell ?_ (by first | exact LeS.le | exact LeS.add _ | (simp; done) | (simp; omega)) _))))⟩
  have hn := szOf_le hz
  have hm : s.length ≤ 1048576 := by omega
  have hz' : 0 ≤ szOf 1048576 s.length := by omega
  generalize szOf 1048576 s.length = q at ks hz'
  clear hz hn
  go_enter Try.func3, Try.ntmps3
  go_wp2_with (go_at_call 14; refine (ks _ (H.out.up (by repeat (first | (with_reducible exact Ext.refl _) | (with_reducible refine Ext.up ?_ _) | (with_reducible refine Ext.alloc ?_ _) | (with_reducible refine Ext.drew ?_) | (with_reducible refine Ext.setRow ?_ (by first | exact LeS.le | exact LeS.add _ | (simp; done) | (simp; omega)) _) | (with_reducible refine Ext.setCell ?_ (by first | exact LeS.le | exact LeS.add _ | (simp; done) | (simp; omega)) _))))).mono ?_; rintro e w' ⟨rfl, rfl⟩)
  refine (toEntryS_any s _ _ (H.out.up (by repeat (first | (with_reducible exact Ext.refl _) | (with_reducible refine Ext.up ?_ _) | (with_reducible refine Ext.alloc ?_ _) | (with_reducible refine Ext.drew ?_) | (with_reducible refine Ext.setRow ?_ (by first | exact LeS.le | exact LeS.add _ | (simp; done) | (simp; omega)) _) | (with_reducible refine Ext.setCell ?_ (by first | exact LeS.le | exact LeS.add _ | (simp; done) | (simp; omega)) _)))) hm).mono ?_; rintro e w' ⟨y1, rfl, ⟨z1, rfl⟩, o1⟩
  have O1 := Lib.hid o1; clear o1
  go_wp2_with fail
  refine (sFB s _ _ ((O1.out.up (by repeat (first | (with_reducible exact Ext.refl _) | (with_reducible refine Ext.up ?_ _) | (with_reducible refine Ext.alloc ?_ _) | (with_reducible refine Ext.drew ?_) | (with_reducible refine Ext.setRow ?_ (by first | exact LeS.le | exact LeS.add _ | (simp; done) | (simp; omega)) _) | (with_reducible refine Ext.setCell ?_ (by first | exact LeS.le | exact LeS.add _ | (simp; done) | (simp; omega)) _)))).sl Ent.enc_length)).mono ?_; rintro e w' ⟨rfl, ⟨z2, rfl⟩⟩
  go_wp2_with fail
  refine (toEntryS_any s _ _ (H.out.up (by repeat (first | (with_reducible exact Ext.refl _) | (with_reducible refine Ext.up ?_ _) | (with_reducible refine Ext.alloc ?_ _) | (with_reducible refine Ext.drew ?_) | (with_reducible refine Ext.setRow ?_ (by first | exact LeS.le | exact LeS.add _ | (simp; done) | (simp; omega)) _) | (with_reducible refine Ext.setCell ?_ (by first | exact LeS.le | exact LeS.add _ | (simp; done) | (simp; omega)) _)))) hm).mono ?_; rintro e w' ⟨y2, rfl, ⟨z3, rfl⟩, o2⟩
  have O2 := Lib.hid o2; clear o2
  go_wp2_with fail
  refine (iFB s _ _ ((O2.out.up (by repeat (first | (with_reducible exact Ext.refl _) | (with_reducible refine Ext.up ?_ _) | (with_reducible refine Ext.alloc ?_ _) | (with_reducible refine Ext.drew ?_) | (with_reducible refine Ext.setRow ?_ (by first | exact LeS.le | exact LeS.add _ | (simp; done) | (simp; omega)) _) | (with_reducible refine Ext.setCell ?_ (by first | exact LeS.le | exact LeS.add _ | (simp; done) | (simp; omega)) _)))).sl Ent.enc_length)).mono ?_; rintro e w' ⟨rfl, ⟨z4, rfl⟩⟩
  go_wp2_with fail
  refine (eqB0 (firstB s) _).mono ?_; rintro e w' ⟨rfl, ⟨z5, rfl⟩⟩
  go_wp2_with fail
  refine (toEntryS_any s _ _ (H.out.up (by repeat (first | (with_reducible exact Ext.refl _) | (with_reducible refine Ext.up ?_ _) | (with_reducible refine Ext.alloc ?_ _) | (with_reducible refine Ext.drew ?_) | (with_reducible refine Ext.setRow ?_ (by first | exact LeS.le | exact LeS.add _ | (simp; done) | (simp; omega)) _) | (with_reducible refine Ext.setCell ?_ (by first | exact LeS.le | exact LeS.add _ | (simp; done) | (simp; omega)) _)))) hm).mono ?_; rintro e w' ⟨y3, rfl, ⟨z6, rfl⟩, o3⟩
  have O3 := Lib.hid o3; clear o3
  go_wp2_with fail
  refine (eqEntryS_same s _ _ _ ((O2.out.up (by repeat (first | (with_reducible exact Ext.refl _) | (with_reducible refine Ext.up ?_ _) | (with_reducible refine Ext.alloc ?_ _) | (with_reducible refine Ext.drew ?_) | (with_reducible refine Ext.setRow ?_ (by first | exact LeS.le | exact LeS.add _ | (simp; done) | (simp; omega)) _) | (with_reducible refine Ext.setCell ?_ (by first | exact LeS.le | exact LeS.add _ | (simp; done) | (simp; omega)) _)))).sl Ent.enc_length) ((O3.out.up (by repeat (first | (with_reducible exact Ext.refl _) | (with_reducible refine Ext.up ?_ _) | (with_reducible refine Ext.alloc ?_ _) | (with_reducible refine Ext.drew ?_) | (with_reducible refine Ext.setRow ?_ (by first | exact LeS.le | exact LeS.add _ | (simp; done) | (simp; omega)) _) | (with_reducible refine Ext.setCell ?_ (by first | exact LeS.le | exact LeS.add _ | (simp; done) | (simp; omega)) _)))).sl Ent.enc_length)).mono ?_; rintro e w' ⟨rfl, ⟨z7, rfl⟩⟩
  go_wp2_with fail
  refine (markEntryS_any _ s _ _ _ (O2.out.up (by repeat (first | (with_reducible exact Ext.refl _) | (with_reducible refine Ext.up ?_ _) | (with_reducible refine Ext.alloc ?_ _) | (with_reducible refine Ext.drew ?_) | (with_reducible refine Ext.setRow ?_ (by first | exact LeS.le | exact LeS.add _ | (simp; done) | (simp; omega)) _) | (with_reducible refine Ext.setCell ?_ (by first | exact LeS.le | exact LeS.add _ | (simp; done) | (simp; omega)) _)))) (by omega) (by omega) (by omega)).mono ?_; rintro e w8 ⟨rfl, hg, _⟩
  have E : Ext w w8 := Own.ext_grown (O2.out.up (by repeat (first | (with_reducible exact Ext.refl _) | (with_reducible refine Ext.up ?_ _) | (with_reducible refine Ext.alloc ?_ _) | (with_reducible refine Ext.drew ?_) | (with_reducible refine Ext.setRow ?_ (by first | exact LeS.le | exact LeS.add _ | (simp; done) | (simp; omega)) _) | (with_reducible refine Ext.setCell ?_ (by first | exact LeS.le | exact LeS.add _ | (simp; done) | (simp; omega)) _)))) (by repeat (first | (with_reducible exact Ext.refl _) | (with_reducible refine Ext.up ?_ _) | (with_reducible refine Ext.alloc ?_ _) | (with_reducible refine Ext.drew ?_) | (with_reducible refine Ext.setRow ?_ (by first | exact LeS.le | exact LeS.add _ | (simp; done) | (simp; omega)) _) | (with_reducible refine Ext.setCell ?_ (by first | exact LeS.le | exact LeS.add _ | (simp; done) | (simp; omega)) _))) LeS.le hg
  have l2 := fun k hk => World.ownsRow.lt O2.out k hk
  have hbp := hg.block z2.val.heap.size LtS.lt (fun e => by have h1 := (l2 _ (by first | exact e | exact e.symm)).1; simp [World.setCell] at h1 <;> omega)
  have hbr := hg.block z4.val.heap.size LtS.lt (fun e => by have := (l2 _ (by first | exact e | exact e.symm)).2; have h4 := z4.ext.size; omega)
  have cp0 : w8.cell? ⟨z2.val.heap.size, 0, none⟩ = some (.int .i64 (firstB s).bf) := (cell_blk hbp 0).trans (by go_simp)
  have cp1 : w8.cell? ⟨z2.val.heap.size, 1, none⟩ = some (.int .i64 (firstB s).ht) := (cell_blk hbp 1).trans (by go_simp)
  have cp2 : w8.cell? ⟨z2.val.heap.size, 2, none⟩ = some (.int .i64 (firstB s).vw) := (cell_blk hbp 2).trans (by go_simp)
  have cp3 : w8.cell? ⟨z2.val.heap.size, 3, none⟩ = some (.slice none 0 0) := (cell_blk hbp 3).trans (by go_simp)
  have cp4 : w8.cell? ⟨z2.val.heap.size, 4, none⟩ = some (.int .i64 (firstB s).rt) := (cell_blk hbp 4).trans (by go_simp)
  have cp5 : w8.cell? ⟨z2.val.heap.size, 5, none⟩ = some (.int .i64 (firstB s).ef) := (cell_blk hbp 5).trans (by go_simp)
  have cr0 : w8.cell? ⟨z4.val.heap.size, 0, none⟩ = some (.int .i64 (firstB s).bf) := (cell_blk hbr 0).trans (by go_simp)
  have cr1 : w8.cell? ⟨z4.val.heap.size, 1, none⟩ = some (.int .i64 (firstB s).ht) := (cell_blk hbr 1).trans (by go_simp)
  have cr2 : w8.cell? ⟨z4.val.heap.size, 2, none⟩ = some (.int .i64 (firstB s).vw) := (cell_blk hbr 2).trans (by go_simp)
  have cr3 : w8.cell? ⟨z4.val.heap.size, 3, none⟩ = some (.slice none 0 0) := (cell_blk hbr 3).trans (by go_simp)
  have cr4 : w8.cell? ⟨z4.val.heap.size, 4, none⟩ = some (.int .i64 (firstB s).rt) := (cell_blk hbr 4).trans (by go_simp)
  have cr5 : w8.cell? ⟨z4.val.heap.size, 5, none⟩ = some (.int .i64 (firstB s).ef) := (cell_blk hbr 5).trans (by go_simp)
  have Lp : LtS z2.val.heap.size w8 := LtS.of_some cp0
  have Lr : LtS z4.val.heap.size w8 := LtS.of_some cr0
  clear hg hbp hbr l2
  obtain ⟨z8, rfl⟩ := Up.of E
  go_wp2_with fail
  refine (eqB0 (firstB s) _).mono ?_; rintro e w' ⟨rfl, ⟨z9, rfl⟩⟩
  go_wp2_with fail
  refine (markBlock_nil (firstB s) none 0 1 _ (by omega) (by omega)).mono ?_; rintro e w' ⟨rfl, ⟨z10, rfl⟩⟩
  go_wp2_with fail
  refine (heldBlock_nil (firstB s) 1 _ (by omega) (by omega)).mono ?_; rintro e w' ⟨rfl, ⟨z11, rfl⟩⟩
  go_wp2_with fail
  refine (toEntryS_any s _ _ (H.out.up (by repeat (first | (with_reducible exact Ext.refl _) | (with_reducible refine Ext.up ?_ _) | (with_reducible refine Ext.alloc ?_ _) | (with_reducible refine Ext.drew ?_) | (with_reducible refine Ext.setRow ?_ (by first | exact LeS.le | exact LeS.add _ | (simp; done) | (simp; omega)) _) | (with_reducible refine Ext.setCell ?_ (by first | exact LeS.le | exact LeS.add _ | (simp; done) | (simp; omega)) _)))) hm).mono ?_; rintro e w' ⟨y4, rfl, ⟨z12, rfl⟩, o4⟩
  have O4 := Lib.hid o4; clear o4
  go_wp2_with fail
  refine (iFB s _ _ ((O4.out.up (by repeat (first | (with_reducible exact Ext.refl _) | (with_reducible refine Ext.up ?_ _) | (with_reducible refine Ext.alloc ?_ _) | (with_reducible refine Ext.drew ?_) | (with_reducible refine Ext.setRow ?_ (by first | exact LeS.le | exact LeS.add _ | (simp; done) | (simp; omega)) _) | (with_reducible refine Ext.setCell ?_ (by first | exact LeS.le | exact LeS.add _ | (simp; done) | (simp; omega)) _)))).sl Ent.enc_length)).mono ?_; rintro e w' ⟨rfl, ⟨z13, rfl⟩⟩
  go_wp2_with fail
  refine (eqB0 (firstB s) _).mono ?_; rintro e w' ⟨rfl, ⟨z14, rfl⟩⟩
  go_wp2_with fail
  refine (heldBlock_nil (firstB s) 1 _ (by omega) (by omega)).mono ?_; rintro e w' ⟨rfl, ⟨z15, rfl⟩⟩
  go_wp2_with fail
  go_ret
  exact ⟨rfl, (.of (by repeat (first | (with_reducible exact Ext.refl _) | (with_reducible refine Ext.up ?_ _) | (with_reducible refine Ext.alloc ?_ _) | (with_reducible refine Ext.drew ?_) | (with_reducible refine Ext.setRow ?_ (by first | exact LeS.le | exact LeS.add _ | (simp; done) | (simp; omega)) _) | (with_reducible refine Ext.setCell ?_ (by first | exact LeS.le | exact LeS.add _ | (simp; done) | (simp; omega)) _))))⟩
end Go.Proofs.Ytknohbdhbjppjaa
