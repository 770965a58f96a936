/- The law FnConflictSelf's walk. -/
import Derived.Test.YtknohbdhbjppjaaRdA
import Derived.Test.YtknohbdhbjppjaaConf
import Derived.Test.YtknohbdhbjppjaaHeld
import Derived.Test.YtknohbdhbjppjaaSum
import Derived.Test.YtknohbdhbjppjaaTop
namespace Go.Proofs.Ytknohbdhbjppjaa
open Go Go.RowKit Go.Proofs

set_option maxRecDepth 100000 in
theorem open_any (bs : List Int) (v : Value) (w : World) (h : SL (RF encU) 1 w v bs) (hb : ∀ b ∈ bs, 0 ≤ b ∧ b ≤ 255) :
    Calls Try.prog 124 #[v] w fun e w' => ∃ rb, e = .returned (.pointer (some ⟨rb, 0, none⟩)) ∧ Up w w' ∧ Rd w w' rb 0 := by
  have hs := h
  obtain ⟨p, c, rfl, hl, hc⟩ := h.openc
  have Hs := Lib.hid hs; clear h hs
  by_cases hlen : 2000 < bs.length
  · obtain ⟨p', c', e', _, hcc⟩ := Hs.out.open
    cases e'
    obtain ⟨x, hx⟩ := getElem?_some_of_lt (show 0 < bs.length by omega)
    obtain ⟨b, off, rfl, _, _⟩ := hcc 0 x hx
    clear hcc hx
    have h2 : (2000 : Int) ≤ (c : Int) := by omega
    go_enter Try.func124, Try.ntmps124
    go_wp2_with fail
    go_ret
    have ht : (bs.take 2000).length = 2000 := by rw [List.length_take]; omega
    have hst := SL.take Hs.out (k := 2000) (by omega)
    refine ⟨w.heap.size, rfl, (.of (by repeat (first | (with_reducible exact Ext.refl _) | (with_reducible refine Ext.up ?_ _) | (with_reducible refine Ext.alloc ?_ _) | (with_reducible refine Ext.drew ?_) | (with_reducible refine Ext.setRow ?_ (by first | exact LeS.le | exact LeS.add _ | (simp; done) | (simp; omega)) _) | (with_reducible refine Ext.setCell ?_ (by first | exact LeS.le | exact LeS.add _ | (simp; done) | (simp; omega)) _)))), (by repeat (first | (with_reducible exact Ext.refl _) | (with_reducible refine Ext.up ?_ _) | (with_reducible refine Ext.alloc ?_ _) | (with_reducible refine Ext.drew ?_) | (with_reducible refine Ext.setRow ?_ (by first | exact LeS.le | exact LeS.add _ | (simp; done) | (simp; omega)) _) | (with_reducible refine Ext.setCell ?_ (by first | exact LeS.le | exact LeS.add _ | (simp; done) | (simp; omega)) _))), Nat.le_refl _, _, bs.take 2000, 0, _, heap_alloc_new w _, hst, by omega, fun b hbm => hb b (List.mem_of_mem_take hbm), by omega, by omega⟩
  · go_enter Try.func124, Try.ntmps124
    go_wp2_with fail
    go_ret
    refine ⟨w.heap.size, rfl, (.of (by repeat (first | (with_reducible exact Ext.refl _) | (with_reducible refine Ext.up ?_ _) | (with_reducible refine Ext.alloc ?_ _) | (with_reducible refine Ext.drew ?_) | (with_reducible refine Ext.setRow ?_ (by first | exact LeS.le | exact LeS.add _ | (simp; done) | (simp; omega)) _) | (with_reducible refine Ext.setCell ?_ (by first | exact LeS.le | exact LeS.add _ | (simp; done) | (simp; omega)) _)))), (by repeat (first | (with_reducible exact Ext.refl _) | (with_reducible refine Ext.up ?_ _) | (with_reducible refine Ext.alloc ?_ _) | (with_reducible refine Ext.drew ?_) | (with_reducible refine Ext.setRow ?_ (by first | exact LeS.le | exact LeS.add _ | (simp; done) | (simp; omega)) _) | (with_reducible refine Ext.setCell ?_ (by first | exact LeS.le | exact LeS.add _ | (simp; done) | (simp; omega)) _))), Nat.le_refl _, _, bs, 0, _, heap_alloc_new w _, Hs.out, by omega, hb, by omega, by omega⟩
set_option maxRecDepth 100000 in
theorem drawConflict_any (bs : List Int) (v : Value) (w : World) (h : SL (RF encU) 1 w v bs) (hb : ∀ b ∈ bs, 0 ≤ b ∧ b ≤ 255) :
    Calls Try.prog 65 #[v] w fun e w' => ∃ x y : Actn, e = .returned (.tuple #[.agg #[.int .i64 x.kind, .int .i64 x.src, .int .i64 x.dst, .int .i64 x.amt], .agg #[.int .i64 y.kind, .int .i64 y.src, .int .i64 y.dst, .int .i64 y.amt]]) ∧ Up w w' := by
  have H := Lib.hid h; clear h
  go_enter Try.func65, Try.ntmps65
  go_wp2_with fail
  refine (open_any bs v _ (H.out.up (by repeat (first | (with_reducible exact Ext.refl _) | (with_reducible refine Ext.up ?_ _) | (with_reducible refine Ext.alloc ?_ _) | (with_reducible refine Ext.drew ?_) | (with_reducible refine Ext.setRow ?_ (by first | exact LeS.le | exact LeS.add _ | (simp; done) | (simp; omega)) _) | (with_reducible refine Ext.setCell ?_ (by first | exact LeS.le | exact LeS.add _ | (simp; done) | (simp; omega)) _)))) hb).mono ?_; rintro e w' ⟨rb, rfl, ⟨z0, rfl⟩, hr⟩
  have H0 := Lib.hid hr
  have hL : LtS rb z0.val := ⟨hr.lt⟩
  have hN0 : NeS w.heap.size rb := ⟨by have := hr.old; simp at this; omega⟩
  have hN1 : NeS (w.heap.size + 1) rb := ⟨by have := hr.old; simp at this; omega⟩
  have Hold := Lib.hid hr.old
  clear hr
  go_wp2_with fail
  refine (action_any _ _ rb _ 14 H0.out (by omega) (by omega) (by omega)).mono ?_; rintro e w' ⟨x, rfl, _, ⟨z1, rfl⟩, hr⟩
  have H1 := Lib.hid hr; clear hr
  go_wp2_with fail
  refine (action_any _ _ rb _ 14 H1.out (by omega) (by omega) (by omega)).mono ?_; rintro e w' ⟨y, rfl, _, ⟨z2, rfl⟩, hr⟩
  have H2 := Lib.hid hr; clear hr
  go_wp2_with fail
  have E : Ext w z2.val := Ext.upR (Ext.upR (show Ext w z0.val from (by repeat (first | (with_reducible exact Ext.refl _) | (with_reducible refine Ext.up ?_ _) | (with_reducible refine Ext.alloc ?_ _) | (with_reducible refine Ext.drew ?_) | (with_reducible refine Ext.setRow ?_ (by first | exact LeS.le | exact LeS.add _ | (simp; done) | (simp; omega)) _) | (with_reducible refine Ext.setCell ?_ (by first | exact LeS.le | exact LeS.add _ | (simp; done) | (simp; omega)) _)))) (by have := Hold.out; simp at this; omega) z1) (by have := Hold.out; simp at this; omega) z2
  have HE := Lib.hid E; clear E
  refine bodyPost_ret (v := .tuple #[.agg #[.int .i64 x.kind, .int .i64 x.src, .int .i64 x.dst, .int .i64 x.amt], .agg #[.int .i64 y.kind, .int .i64 y.src, .int .i64 y.dst, .int .i64 y.amt]]) (by simp [results, Try.results65, go_sem]) rfl ?_
  refine ⟨x, y, rfl, .of ?_⟩
  repeat (first | (with_reducible exact HE.out) | (with_reducible refine Ext.setCell ?_ (by first | exact Nat.le_refl _ | exact Nat.le_succ _) _))
theorem alive_any (w : World) : Calls Try.prog 69 #[] w fun e w' => e = .returned (.bool true) ∧ Up w w' := by
  have hs : sumOf 0 [] = 17 := rfl
  have k := fun a c w => sumOf_any 0 [] (.slice a 0 c) w (SL.nil _ _ _ _ _)
  rw [hs] at k
  go_enter Try.func69, Try.ntmps69
  go_wp2_with (go_at_call 131; refine (k _ _ _).mono ?_; rintro e w' ⟨rfl, z, rfl⟩)
  go_ret
  exact ⟨rfl, (.of (by repeat (first | (with_reducible exact Ext.refl _) | (with_reducible refine Ext.up ?_ _) | (with_reducible refine Ext.alloc ?_ _) | (with_reducible refine Ext.drew ?_) | (with_reducible refine Ext.setRow ?_ (by first | exact LeS.le | exact LeS.add _ | (simp; done) | (simp; omega)) _) | (with_reducible refine Ext.setCell ?_ (by first | exact LeS.le | exact LeS.add _ | (simp; done) | (simp; omega)) _))))⟩
theorem conf_self (x : Actn) : conflict x x = x.ok := by
  have h : common x.wk x.wk = true := by
    unfold Actn.wk
    split
    · simp [common]
    · split <;> simp [common]
  unfold conflict conf
  rw [h, Bool.true_or, Bool.and_true, Bool.and_self]
set_option maxRecDepth 100000 in
set_option maxHeartbeats 1000000 in
theorem FnConflictSelf_any (bs : List Int) (v : Value) (w : World) (h : SL (RF encU) 1 w v bs) (hb : ∀ b ∈ bs, 0 ≤ b ∧ b ≤ 255) :
    Calls Try.prog 13 #[v] w fun e w' => e = .returned (.bool true) ∧ Up w w' := by
  have H := Lib.hid h
  obtain ⟨p, c, rfl, _, _⟩ := h.openc
  clear h
  by_cases hl : 1048576 < bs.length
  · go_enter Try.func13, Try.ntmps13
    go_wp2_with fail
    go_ret
    exact ⟨rfl, (.of (by repeat (first | (with_reducible exact Ext.refl _) | (with_reducible refine Ext.up ?_ _) | (with_reducible refine Ext.alloc ?_ _) | (with_reducible refine Ext.drew ?_) | (with_reducible refine Ext.setRow ?_ (by first | exact LeS.le | exact LeS.add _ | (simp; done) | (simp; omega)) _) | (with_reducible refine Ext.setCell ?_ (by first | exact LeS.le | exact LeS.add _ | (simp; done) | (simp; omega)) _))))⟩
  go_enter Try.func13, Try.ntmps13
  go_wp2_with fail
  refine (drawConflict_any bs _ _ (H.out.up (by repeat (first | (with_reducible exact Ext.refl _) | (with_reducible refine Ext.up ?_ _) | (with_reducible refine Ext.alloc ?_ _) | (with_reducible refine Ext.drew ?_) | (with_reducible refine Ext.setRow ?_ (by first | exact LeS.le | exact LeS.add _ | (simp; done) | (simp; omega)) _) | (with_reducible refine Ext.setCell ?_ (by first | exact LeS.le | exact LeS.add _ | (simp; done) | (simp; omega)) _)))) hb).mono ?_; rintro e w' ⟨x, y, rfl, ⟨z0, rfl⟩⟩
  go_wp2_with fail
  (refine wp_region_up (by kernel_rfl) (by kernel_rfl) ?_; (repeat (go_big_quiet_step (first | (go_at_call 66; exact Calls.up (iConflict_any x y _)) | (go_at_call 67; exact Calls.up (sConflict_any x y _))))); refine wpQuiet_nil ?_; intro _ hw'; obtain ⟨zq, hw''⟩ := hw'; subst hw'')
  go_wp2_with fail
  have ks := fun w => iConflict_any x x w
  simp only [conf_self] at ks
  (refine wp_region_up (by kernel_rfl) (by kernel_rfl) ?_; (repeat (go_big_quiet_step (first | (go_at_call 66; exact Calls.up (ks _)) | (go_at_call 68; exact Calls.up (sActionValid_any x _)) | (go_at_call 69; exact Calls.up (alive_any _))))); refine wpQuiet_nil ?_; intro _ hw'; obtain ⟨zq, hw''⟩ := hw'; subst hw'')
  go_wp2_with fail
  go_ret
  exact ⟨rfl, (.of (by repeat (first | (with_reducible exact Ext.refl _) | (with_reducible refine Ext.up ?_ _) | (with_reducible refine Ext.alloc ?_ _) | (with_reducible refine Ext.drew ?_) | (with_reducible refine Ext.setRow ?_ (by first | exact LeS.le | exact LeS.add _ | (simp; done) | (simp; omega)) _) | (with_reducible refine Ext.setCell ?_ (by first | exact LeS.le | exact LeS.add _ | (simp; done) | (simp; omega)) _))))⟩
end Go.Proofs.Ytknohbdhbjppjaa
