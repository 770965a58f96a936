/- The law FnLevelOrder's walk. -/
import Derived.Test.YtldmigmnbmnaiaaLOf
import Derived.Test.YtldmigmnbmnaiaaLvo3
namespace Go.Proofs.Ytldmigmnbmnaiaa
open Go Go.RowKit Go.Proofs

theorem len_le : ∀ {a b : List Int}, a.Pairwise (· ≠ ·) → (∀ x ∈ a, x ∈ b) → a.length ≤ b.length
  | [], b, _, _ => by simp
  | x :: a, b, ha, hs => by
    rw [List.pairwise_cons] at ha
    have hx : x ∈ b := hs x (by simp)
    have h1 := len_le (a := a) (b := b.erase x) ha.2 (fun y hy => (List.mem_erase_of_ne (fun e => ha.1 y hy e.symm)).2 (hs y (by simp [hy])))
    rw [List.length_erase_of_mem hx] at h1
    have : 0 < b.length := List.length_pos_of_mem hx
    simp only [List.length_cons]; omega
theorem lvoR_mem (l : List Actn) (x : Int) : x ∈ lvoR l ↔ ∃ i : Nat, i < (lvlR l).length ∧ x = i := by
  rw [lvoR, lvRows_mem]
  constructor
  · rintro ⟨i, h1, h2, _⟩; exact ⟨i, h1, h2⟩
  · rintro ⟨i, h1, h2⟩
    obtain ⟨a, ha⟩ := getElem?_some_of_lt h1
    have := lvlR_in l a (List.mem_of_getElem? ha)
    exact ⟨i, h1, h2, a.toNat, by omega, by rw [ha]; congr 1; omega⟩
theorem lvoR_length (l : List Actn) : (lvoR l).length = (lvlR l).length := by
  have hm := lvoR_mem l
  have hr : ∀ x : Int, x ∈ rangeI (lvlR l).length ↔ ∃ i : Nat, i < (lvlR l).length ∧ x = i := by
    intro x
    simp only [rangeI, List.mem_map, List.mem_range]
    exact ⟨fun ⟨i, h1, h2⟩ => ⟨i, h1, h2.symm⟩, fun ⟨i, h1, h2⟩ => ⟨i, h1, h2.symm⟩⟩
  have h1 : (lvoR l).length ≤ (rangeI (lvlR l).length).length := len_le ((lvRows_lt _ _).imp (fun {a b} h e => by subst e; unfold lvLt at h; omega)) (fun x hx => (hr x).2 ((hm x).1 hx))
  have h2 : (rangeI (lvlR l).length).length ≤ (lvoR l).length := by
    refine len_le ?_ (fun x hx => (hm x).2 ((hr x).1 hx))
    rw [rangeI, List.pairwise_map, List.pairwise_iff_getElem]
    intro i j hi hj hij
    simp
    omega
  rw [rangeI_length] at h1 h2
  omega
theorem lvoR_step (l : List Actn) {k : Nat} {i j : Nat} {a b : Int} (hi : (lvoR l)[k]? = some (i : Int)) (hj : (lvoR l)[k + 1]? = some (j : Int)) (ha : (lvlR l)[i]? = some a) (hb : (lvlR l)[j]? = some b) : a ≤ b := by
  have hp := lvRows_lt (lvlR l) (lvlR l).length
  rw [List.pairwise_iff_getElem] at hp
  obtain ⟨h1, h2⟩ := List.getElem?_eq_some_iff.1 hi
  obtain ⟨h3, h4⟩ := List.getElem?_eq_some_iff.1 hj
  have h5 : lvLt (lvlR l) (lvoR l)[k] (lvoR l)[k + 1] := hp k (k + 1) h1 h3 (Nat.lt_succ_self _)
  rw [h2, h4] at h5
  unfold lvLt lvl0 at h5
  simp only [Int.toNat_natCast] at h5
  rw [getD_of ha, getD_of hb] at h5
  omega
set_option maxRecDepth 100000 in
theorem drawLevelOrder_any (bs : List Int) (v : Value) (w : World) (h : SL (RF encU) 1 w v bs) (hb : ∀ b ∈ bs, 0 ≤ b ∧ b ≤ 255) :
    Calls Try.prog 35 #[v] w fun e w' => ∃ v' l, e = .returned v' ∧ Up w w' ∧ l.length ≤ 11 ∧ Own Actn.enc 32 4 w.heap.size w' v' l := by
  have H := Lib.hid h; clear h
  go_enter Try.func35, Try.ntmps35
  go_wp2_with fail
  refine (open_any bs v _ H.out hb).mono ?_; rintro e w' ⟨rb, rfl, ⟨z0, rfl⟩, hr⟩
  have H0 := Lib.hid hr
  have Hold := Lib.hid hr.old
  clear hr
  go_wp2_with fail
  refine (actions_any _ _ rb _ 9 H0.out (by omega) (by omega) (by omega)).mono ?_; rintro e w' ⟨y, l, rfl, hl, _, _, ⟨z1, rfl⟩, hr, ho⟩
  have E : Ext w z1.val := Ext.upR z0.ext Hold.out z1
  go_wp2_with fail
  go_ret
  exact ⟨_, l, rfl, .of E, hl, ho.lo z0.ext.size⟩
set_option maxRecDepth 100000 in
set_option maxHeartbeats 2000000 in
theorem FnLevelOrder_any (bs : List Int) (v : Value) (w : World) (h : SL (RF encU) 1 w v bs) (hb : ∀ b ∈ bs, 0 ≤ b ∧ b ≤ 255) :
    Calls Try.prog 8 #[v] w fun e w' => e = .returned (.bool true) ∧ Up w w' := by
  have H := Lib.hid h
  obtain ⟨p, c, rfl, _, _⟩ := h.openc
  clear h
  by_cases hl : 1048576 < bs.length
  · go_enter Try.func8, Try.ntmps8
    go_wp2_with fail
    go_ret
    exact ⟨rfl, (.of (by repeat (first | (with_reducible exact Ext.refl _) | (with_reducible refine Ext.up ?_ _) | (with_reducible refine Ext.alloc ?_ _) | (with_reducible refine Ext.drew ?_) | (with_reducible refine Ext.setRow ?_ (by first | exact LeS.le | exact LeS.add _ | (simp; done) | (simp; omega)) _) | (with_reducible refine Ext.setCell ?_ (by first | exact LeS.le | exact LeS.add _ | (simp; done) | (simp; omega)) _))))⟩
  go_enter Try.func8, Try.ntmps8
  go_wp2_with fail
  refine (drawLevelOrder_any bs _ _ (H.out.up (by repeat (first | (with_reducible exact Ext.refl _) | (with_reducible refine Ext.up ?_ _) | (with_reducible refine Ext.alloc ?_ _) | (with_reducible refine Ext.drew ?_) | (with_reducible refine Ext.setRow ?_ (by first | exact LeS.le | exact LeS.add _ | (simp; done) | (simp; omega)) _) | (with_reducible refine Ext.setCell ?_ (by first | exact LeS.le | exact LeS.add _ | (simp; done) | (simp; omega)) _)))) hb).mono ?_; rintro e w' ⟨yl, l, rfl, ⟨z0, rfl⟩, hll, ol⟩
  have OL := Lib.hid ol
  clear ol
  go_wp2_with fail
  refine (iLevelOrder_any l _ _ ((OL.out.up (by repeat (first | (with_reducible exact Ext.refl _) | (with_reducible refine Ext.up ?_ _) | (with_reducible refine Ext.alloc ?_ _) | (with_reducible refine Ext.drew ?_) | (with_reducible refine Ext.setRow ?_ (by first | exact LeS.le | exact LeS.add _ | (simp; done) | (simp; omega)) _) | (with_reducible refine Ext.setCell ?_ (by first | exact LeS.le | exact LeS.add _ | (simp; done) | (simp; omega)) _)))).sl Actn.enc_length)).mono ?_; rintro e w' ⟨yx, rfl, ⟨z1, rfl⟩, ox⟩
  obtain ⟨px, cx, rfl, _, hcx⟩ := (ox.sl encI_length).open
  have OX := Lib.hid ox; have HCX := Lib.hid hcx
  clear ox hcx
  go_wp2_with fail
  refine (sLevelOrder_any l _ _ ((OL.out.up (by repeat (first | (with_reducible exact Ext.refl _) | (with_reducible refine Ext.up ?_ _) | (with_reducible refine Ext.alloc ?_ _) | (with_reducible refine Ext.drew ?_) | (with_reducible refine Ext.setRow ?_ (by first | exact LeS.le | exact LeS.add _ | (simp; done) | (simp; omega)) _) | (with_reducible refine Ext.setCell ?_ (by first | exact LeS.le | exact LeS.add _ | (simp; done) | (simp; omega)) _)))).sl Actn.enc_length)).mono ?_; rintro e w' ⟨yw, rfl, ⟨z2, rfl⟩, ow⟩
  have OW := Lib.hid ow; clear ow
  go_wp2_with fail
  refine (sameInts_same (lvoR l) _ _ _ ((OX.out.up (by repeat (first | (with_reducible exact Ext.refl _) | (with_reducible refine Ext.up ?_ _) | (with_reducible refine Ext.alloc ?_ _) | (with_reducible refine Ext.drew ?_) | (with_reducible refine Ext.setRow ?_ (by first | exact LeS.le | exact LeS.add _ | (simp; done) | (simp; omega)) _) | (with_reducible refine Ext.setCell ?_ (by first | exact LeS.le | exact LeS.add _ | (simp; done) | (simp; omega)) _)))).sl encI_length) ((OW.out.up (by repeat (first | (with_reducible exact Ext.refl _) | (with_reducible refine Ext.up ?_ _) | (with_reducible refine Ext.alloc ?_ _) | (with_reducible refine Ext.drew ?_) | (with_reducible refine Ext.setRow ?_ (by first | exact LeS.le | exact LeS.add _ | (simp; done) | (simp; omega)) _) | (with_reducible refine Ext.setCell ?_ (by first | exact LeS.le | exact LeS.add _ | (simp; done) | (simp; omega)) _)))).sl encI_length)).mono ?_; rintro e w' ⟨rfl, ⟨z3, rfl⟩⟩
  go_wp2_with fail
  refine (iLevelsOf_any l _ _ ((OL.out.up (by repeat (first | (with_reducible exact Ext.refl _) | (with_reducible refine Ext.up ?_ _) | (with_reducible refine Ext.alloc ?_ _) | (with_reducible refine Ext.drew ?_) | (with_reducible refine Ext.setRow ?_ (by first | exact LeS.le | exact LeS.add _ | (simp; done) | (simp; omega)) _) | (with_reducible refine Ext.setCell ?_ (by first | exact LeS.le | exact LeS.add _ | (simp; done) | (simp; omega)) _)))).sl Actn.enc_length)).mono ?_; rintro e w' ⟨yv, rfl, ⟨z4, rfl⟩, ov⟩
  obtain ⟨pv, cv, rfl, _, hcv⟩ := (ov.sl encI_length).open
  have HCV := Lib.hid hcv
  clear ov hcv
  have Hlen := Lib.hid (lvoR_length l)
  have Hmem := Lib.hid (fun (k : Nat) (x : Int) (hx : (lvoR l)[k]? = some x) => (lvoR_mem l x).1 (List.mem_of_getElem? hx))
  have hl10 := lvlR_le l
  rw [Hlen.out]
  go_wp2_with fail
  go_loopw [6] (fun s6 wr => ∃ (k : Nat), s6 = .int .i64 k ∧ k ≤ (lvlR l).length ∧ Up z4.val wr) (fun s6 _ => (lvlR l).length - (intOf s6).toNat)
  case atStart => exact ⟨0, rfl, Nat.zero_le _, (.of (by repeat (first | (with_reducible exact Ext.refl _) | (with_reducible refine Ext.up ?_ _) | (with_reducible refine Ext.alloc ?_ _) | (with_reducible refine Ext.drew ?_) | (with_reducible refine Ext.setRow ?_ (by first | exact LeS.le | exact LeS.add _ | (simp; done) | (simp; omega)) _) | (with_reducible refine Ext.setCell ?_ (by first | exact LeS.le | exact LeS.add _ | (simp; done) | (simp; omega)) _))))⟩
  case round =>
    obtain ⟨k, rfl, hk, ⟨z5, rfl⟩⟩ := hrel
    by_cases hlt : k < (lvlR l).length
    · obtain ⟨x, hx⟩ := getElem?_some_of_lt (l := lvoR l) (k := k) (by rw [Hlen.out]; exact hlt)
      obtain ⟨i, hi, rfl⟩ := Hmem.out k x hx
      obtain ⟨b, hb⟩ := getElem?_some_of_lt hi
      obtain ⟨gx, fx, rfl, hLx, hcx⟩ := HCX.out k _ hx
      obtain ⟨gv, fv, rfl, hLv, hcv⟩ := HCV.out i b hb
      have cx0 : z1.val.cell? ⟨gx, fx + k, none⟩ = some (.int .i64 i) := by have := hcx 0 _ rfl; simpa using this
      have cv0 : z4.val.cell? ⟨gv, fv + i, none⟩ = some (.int .i64 b) := by have := hcv 0 _ rfl; simpa using this
      have k0 : (0 : Int) ≤ (k : Int) := by omega
      have i0 : (0 : Int) ≤ (i : Int) := by omega
      have kl : (k : Int) < ((lvlR l).length : Int) := by omega
      have di0 : decide ((i : Int) < 0) = false := by simp
      have dil : decide ((lvlR l).length ≤ i) = false := by simp; omega
      have il : (i : Int) < ((lvlR l).length : Int) := by omega
      have Hx := Lib.hid hx; have Hb := Lib.hid hb
      clear hx hb hcx hcv
      by_cases hk0 : k = 0
      · have hkp : decide (0 < k) = false := by simp; omega
        have Hk0 := Lib.hid hk0; clear hk0
        go_wp2_with fail
        (refine wp_region_up (by kernel_rfl) (by kernel_rfl) ?_; (repeat (go_big_quiet_step (fail))); refine wpQuiet_nil ?_; intro _ hw'; obtain ⟨zq, hw''⟩ := hw'; subst hw'')
        go_wp2_with fail
        go_roundw
        case rel => exact ⟨k + 1, by go_num, by omega, (.of (by repeat (first | (with_reducible exact Ext.refl _) | (with_reducible refine Ext.up ?_ _) | (with_reducible refine Ext.alloc ?_ _) | (with_reducible refine Ext.drew ?_) | (with_reducible refine Ext.setRow ?_ (by first | exact LeS.le | exact LeS.add _ | (simp; done) | (simp; omega)) _) | (with_reducible refine Ext.setCell ?_ (by first | exact LeS.le | exact LeS.add _ | (simp; done) | (simp; omega)) _))))⟩
        case measure => simp [intOf] <;> omega
      · have hkp : decide (0 < k) = true := by simp; omega
        obtain ⟨y, hy⟩ := getElem?_some_of_lt (l := lvoR l) (k := k - 1) (by rw [Hlen.out]; omega)
        obtain ⟨j, hj, rfl⟩ := Hmem.out (k - 1) y hy
        obtain ⟨a, ha⟩ := getElem?_some_of_lt hj
        obtain ⟨gx', fx', e1, _, hcx⟩ := HCX.out (k - 1) _ hy
        obtain ⟨gv', fv', e2, _, hcv⟩ := HCV.out j a ha
        simp only [Option.some.injEq, Addr.mk.injEq, and_true] at e1 e2
        obtain ⟨rfl, rfl⟩ := e1
        obtain ⟨rfl, rfl⟩ := e2
        have cy0 : z1.val.cell? ⟨gx, fx + (k - 1), none⟩ = some (.int .i64 j) := by have := hcx 0 _ rfl; simpa using this
        have ca0 : z4.val.cell? ⟨gv, fv + j, none⟩ = some (.int .i64 a) := by have := hcv 0 _ rfl; simpa using this
        have hle : a ≤ b := lvoR_step l (k := k - 1) hy (by rw [show k - 1 + 1 = k from by omega]; exact Hx.out) ha Hb.out
        have hgt : decide (b < a) = false := by simp; omega
        have km : ((k : Int) - 1).toNat = k - 1 := by omega
        have km0 : (0 : Int) ≤ (k : Int) - 1 := by omega
        have km1 : (k : Int) - 1 < ((lvlR l).length : Int) := by omega
        have kw : IntKind.i64.wrap ((k : Int) - 1) = (k : Int) - 1 := IntWalk.i64_in _ ⟨by omega, by omega⟩
        have j0 : (0 : Int) ≤ (j : Int) := by omega
        have jl : (j : Int) < ((lvlR l).length : Int) := by omega
        clear hy ha hcx hcv hle hk0
        go_wp2_with fail
        (refine wp_region_up (by kernel_rfl) (by kernel_rfl) ?_; (repeat (go_big_quiet_step (fail))); refine wpQuiet_nil ?_; intro _ hw'; obtain ⟨zq, hw''⟩ := hw'; subst hw'')
        go_wp2_with fail
        go_roundw
        case rel => exact ⟨k + 1, by go_num, by omega, (.of (by repeat (first | (with_reducible exact Ext.refl _) | (with_reducible refine Ext.up ?_ _) | (with_reducible refine Ext.alloc ?_ _) | (with_reducible refine Ext.drew ?_) | (with_reducible refine Ext.setRow ?_ (by first | exact LeS.le | exact LeS.add _ | (simp; done) | (simp; omega)) _) | (with_reducible refine Ext.setCell ?_ (by first | exact LeS.le | exact LeS.add _ | (simp; done) | (simp; omega)) _))))⟩
        case measure => simp [intOf] <;> omega
    · go_wp2_with (go_at_call 16; refine (alive_any _).mono ?_; rintro e w' ⟨rfl, z6, rfl⟩)
      go_ret
      exact ⟨by first | rfl | simp, (.of (by repeat (first | (with_reducible exact Ext.refl _) | (with_reducible refine Ext.up ?_ _) | (with_reducible refine Ext.alloc ?_ _) | (with_reducible refine Ext.drew ?_) | (with_reducible refine Ext.setRow ?_ (by first | exact LeS.le | exact LeS.add _ | (simp; done) | (simp; omega)) _) | (with_reducible refine Ext.setCell ?_ (by first | exact LeS.le | exact LeS.add _ | (simp; done) | (simp; omega)) _))))⟩
end Go.Proofs.Ytldmigmnbmnaiaa
