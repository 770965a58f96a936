/- The law FnLevelsOf's walk. -/
import Derived.Test.YtldmigmnbmnaiaaLOf
import Derived.Test.YtldmigmnbmnaiaaBlk
namespace Go.Proofs.Ytldmigmnbmnaiaa
open Go Go.RowKit Go.Proofs

set_option maxRecDepth 100000 in
set_option maxHeartbeats 2000000 in
theorem FnLevelsOf_any (bs : List Int) (v : Value) (w : World) (h : SL (RF encU) 1 w v bs) (hb : ∀ b ∈ bs, 0 ≤ b ∧ b ≤ 255) :
    Calls Try.prog 3 #[v] w fun e w' => e = .returned (.bool true) ∧ Up w w' := by
  have H := Lib.hid h
  obtain ⟨p, c, rfl, _, _⟩ := h.openc
  clear h
  by_cases hl : 1048576 < bs.length
  · go_enter Try.func3, Try.ntmps3
    go_wp2_with fail
    go_ret
    exact ⟨rfl, (.of (by repeat (first | (with_reducible exact Ext.refl _) | (with_reducible refine Ext.up ?_ _) | (with_reducible refine Ext.alloc ?_ _) | (with_reducible refine Ext.drew ?_) | (with_reducible refine Ext.setRow ?_ (by first | exact LeS.le | exact LeS.add _ | (simp; done) | (simp; omega)) _) | (with_reducible refine Ext.setCell ?_ (by first | exact LeS.le | exact LeS.add _ | (simp; done) | (simp; omega)) _))))⟩
  go_enter Try.func3, Try.ntmps3
  go_wp2_with fail
  refine (drawLevelsOf_any bs _ _ (H.out.up (by repeat (first | (with_reducible exact Ext.refl _) | (with_reducible refine Ext.up ?_ _) | (with_reducible refine Ext.alloc ?_ _) | (with_reducible refine Ext.drew ?_) | (with_reducible refine Ext.setRow ?_ (by first | exact LeS.le | exact LeS.add _ | (simp; done) | (simp; omega)) _) | (with_reducible refine Ext.setCell ?_ (by first | exact LeS.le | exact LeS.add _ | (simp; done) | (simp; omega)) _)))) hb).mono ?_; rintro e w' ⟨yl, l, rfl, ⟨z0, rfl⟩, hll, ol⟩
  obtain ⟨pl, cl, rfl, _, hcl⟩ := (ol.sl Actn.enc_length).open
  have OL := Lib.hid ol; have HCL := Lib.hid hcl
  clear ol hcl
  go_wp2_with fail
  refine (iLevelsOf_any l _ _ ((OL.out.up (by repeat (first | (with_reducible exact Ext.refl _) | (with_reducible refine Ext.up ?_ _) | (with_reducible refine Ext.alloc ?_ _) | (with_reducible refine Ext.drew ?_) | (with_reducible refine Ext.setRow ?_ (by first | exact LeS.le | exact LeS.add _ | (simp; done) | (simp; omega)) _) | (with_reducible refine Ext.setCell ?_ (by first | exact LeS.le | exact LeS.add _ | (simp; done) | (simp; omega)) _)))).sl Actn.enc_length)).mono ?_; rintro e w' ⟨yx, rfl, ⟨z1, rfl⟩, ox⟩
  obtain ⟨px, cx, rfl, _, hcx⟩ := (ox.sl encI_length).open
  have OX := Lib.hid ox; have HCX := Lib.hid hcx
  clear ox hcx
  go_wp2_with fail
  refine (sLevelsOf_any l _ _ ((OL.out.up (by repeat (first | (with_reducible exact Ext.refl _) | (with_reducible refine Ext.up ?_ _) | (with_reducible refine Ext.alloc ?_ _) | (with_reducible refine Ext.drew ?_) | (with_reducible refine Ext.setRow ?_ (by first | exact LeS.le | exact LeS.add _ | (simp; done) | (simp; omega)) _) | (with_reducible refine Ext.setCell ?_ (by first | exact LeS.le | exact LeS.add _ | (simp; done) | (simp; omega)) _)))).sl Actn.enc_length)).mono ?_; rintro e w' ⟨yw, rfl, ⟨z2, rfl⟩, ow⟩
  have OW := Lib.hid ow; clear ow
  go_wp2_with fail
  refine (sameInts_same (lvlR l) _ _ _ ((OX.out.up (by repeat (first | (with_reducible exact Ext.refl _) | (with_reducible refine Ext.up ?_ _) | (with_reducible refine Ext.alloc ?_ _) | (with_reducible refine Ext.drew ?_) | (with_reducible refine Ext.setRow ?_ (by first | exact LeS.le | exact LeS.add _ | (simp; done) | (simp; omega)) _) | (with_reducible refine Ext.setCell ?_ (by first | exact LeS.le | exact LeS.add _ | (simp; done) | (simp; omega)) _)))).sl encI_length) ((OW.out.up (by repeat (first | (with_reducible exact Ext.refl _) | (with_reducible refine Ext.up ?_ _) | (with_reducible refine Ext.alloc ?_ _) | (with_reducible refine Ext.drew ?_) | (with_reducible refine Ext.setRow ?_ (by first | exact LeS.le | exact LeS.add _ | (simp; done) | (simp; omega)) _) | (with_reducible refine Ext.setCell ?_ (by first | exact LeS.le | exact LeS.add _ | (simp; done) | (simp; omega)) _)))).sl encI_length)).mono ?_; rintro e w' ⟨rfl, ⟨z3, rfl⟩⟩
  go_wp2_with fail
  have kv := fun w v h => sActionsValid_any l v w h
  rcases hok : actsOk l with _ | _
  · rw [hok] at kv
    have h0 : lvlR l = [] := lvlR_no hok
    rw [h0]
    refine (kv _ _ ((OL.out.up (by repeat (first | (with_reducible exact Ext.refl _) | (with_reducible refine Ext.up ?_ _) | (with_reducible refine Ext.alloc ?_ _) | (with_reducible refine Ext.drew ?_) | (with_reducible refine Ext.setRow ?_ (by first | exact LeS.le | exact LeS.add _ | (simp; done) | (simp; omega)) _) | (with_reducible refine Ext.setCell ?_ (by first | exact LeS.le | exact LeS.add _ | (simp; done) | (simp; omega)) _)))).sl Actn.enc_length)).mono ?_; rintro e w' ⟨rfl, ⟨z4, rfl⟩⟩
    go_wp2_with (go_at_call 16; refine (alive_any _).mono ?_; rintro e w' ⟨rfl, z5, rfl⟩)
    go_ret
    exact ⟨rfl, (.of (by repeat (first | (with_reducible exact Ext.refl _) | (with_reducible refine Ext.up ?_ _) | (with_reducible refine Ext.alloc ?_ _) | (with_reducible refine Ext.drew ?_) | (with_reducible refine Ext.setRow ?_ (by first | exact LeS.le | exact LeS.add _ | (simp; done) | (simp; omega)) _) | (with_reducible refine Ext.setCell ?_ (by first | exact LeS.le | exact LeS.add _ | (simp; done) | (simp; omega)) _))))⟩
  rw [hok] at kv
  refine (kv _ _ ((OL.out.up (by repeat (first | (with_reducible exact Ext.refl _) | (with_reducible refine Ext.up ?_ _) | (with_reducible refine Ext.alloc ?_ _) | (with_reducible refine Ext.drew ?_) | (with_reducible refine Ext.setRow ?_ (by first | exact LeS.le | exact LeS.add _ | (simp; done) | (simp; omega)) _) | (with_reducible refine Ext.setCell ?_ (by first | exact LeS.le | exact LeS.add _ | (simp; done) | (simp; omega)) _)))).sl Actn.enc_length)).mono ?_; rintro e w' ⟨rfl, ⟨z4, rfl⟩⟩
  have hlv : lvlR l = lvlTo l l.length := lvlR_yes hok
  have hlen : (lvlR l).length = l.length := by rw [hlv, lvlTo_length]
  have hin := fun (k : Nat) (b : Int) (hb : (lvlR l)[k]? = some b) => lvlTo_in l l.length b (by rw [← hlv]; exact List.mem_of_getElem? hb)
  have Hlv := Lib.hid hlv; have Hlen := Lib.hid hlen; have Hin := Lib.hid hin; have Hok := Lib.hid hok
  clear hlv hlen hin hok kv
  rw [Hlen.out]
  go_wp2_with fail
  go_loopw [5, 6, 7] (fun s5 _ _ wr => ∃ (k : Nat), s5 = .int .i64 k ∧ k ≤ l.length ∧ Up z4.val wr) (fun s5 _ _ _ => l.length - (intOf s5).toNat)
  case atStart => exact ⟨0, rfl, Nat.zero_le _, (.of (by repeat (first | (with_reducible exact Ext.refl _) | (with_reducible refine Ext.up ?_ _) | (with_reducible refine Ext.alloc ?_ _) | (with_reducible refine Ext.drew ?_) | (with_reducible refine Ext.setRow ?_ (by first | exact LeS.le | exact LeS.add _ | (simp; done) | (simp; omega)) _) | (with_reducible refine Ext.setCell ?_ (by first | exact LeS.le | exact LeS.add _ | (simp; done) | (simp; omega)) _))))⟩
  case round =>
    obtain ⟨k, rfl, hk, ⟨z5, rfl⟩⟩ := hrel
    by_cases hlt : k < l.length
    · obtain ⟨y, hy⟩ := getElem?_some_of_lt hlt
      obtain ⟨b, hbk⟩ := getElem?_some_of_lt (l := lvlR l) (k := k) (by rw [Hlen.out]; exact hlt)
      obtain ⟨b0, b1⟩ := Hin.out k b hbk
      obtain ⟨gl, fl, rfl, hLl, hcl⟩ := HCL.out k y hy
      obtain ⟨gx, fx, rfl, hLx, hcx⟩ := HCX.out k b hbk
      have cy0 : z0.val.cell? ⟨gl, fl + k * 4, none⟩ = some (.int .i64 y.kind) := hcl 0 _ rfl
      have cy1 : z0.val.cell? ⟨gl, fl + k * 4 + 1, none⟩ = some (.int .i64 y.src) := hcl 1 _ rfl
      have cy2 : z0.val.cell? ⟨gl, fl + k * 4 + 2, none⟩ = some (.int .i64 y.dst) := hcl 2 _ rfl
      have cy3 : z0.val.cell? ⟨gl, fl + k * 4 + 3, none⟩ = some (.int .i64 y.amt) := hcl 3 _ rfl
      have cb : z1.val.cell? ⟨gx, fx + k, none⟩ = some (.int .i64 b) := by have := hcx 0 _ rfl; simpa using this
      have k0 : (0 : Int) ≤ (k : Int) := by omega
      have Hy := Lib.hid hy; have Hbk := Lib.hid hbk
      have Hf := Lib.hid (fnd_all (l := l) hlt (Nat.le_refl _))
      clear hy hbk hcl hcx
      go_wp2_with fail
      go_loopw [6, 7] (fun s6 s7 wr => ∃ (j : Nat), s7 = .int .i64 j ∧ j ≤ k ∧ s6 = .bool (fnd l (lvlR l) k j) ∧ Up z5.val wr) (fun _ s7 _ => k - (intOf s7).toNat)
      case atStart => exact ⟨0, rfl, Nat.zero_le _, by rw [fnd_zero Hbk.out], (.of (by repeat (first | (with_reducible exact Ext.refl _) | (with_reducible refine Ext.up ?_ _) | (with_reducible refine Ext.alloc ?_ _) | (with_reducible refine Ext.drew ?_) | (with_reducible refine Ext.setRow ?_ (by first | exact LeS.le | exact LeS.add _ | (simp; done) | (simp; omega)) _) | (with_reducible refine Ext.setCell ?_ (by first | exact LeS.le | exact LeS.add _ | (simp; done) | (simp; omega)) _))))⟩
      case round =>
        obtain ⟨j, rfl, hj, rfl, ⟨z6, rfl⟩⟩ := hrel
        by_cases hjk : j < k
        · obtain ⟨x, hx⟩ := getElem?_some_of_lt (show j < l.length by omega)
          obtain ⟨a, haj⟩ := getElem?_some_of_lt (l := lvlR l) (k := j) (by rw [Hlen.out]; omega)
          obtain ⟨a0, a1⟩ := Hin.out j a haj
          obtain ⟨gl', fl', e1, _, hcl⟩ := HCL.out j x hx
          obtain ⟨gx', fx', e2, _, hcx⟩ := HCX.out j a haj
          simp only [Option.some.injEq, Addr.mk.injEq, and_true] at e1 e2
          obtain ⟨rfl, rfl⟩ := e1
          obtain ⟨rfl, rfl⟩ := e2
          have cx0 : z0.val.cell? ⟨gl, fl + j * 4, none⟩ = some (.int .i64 x.kind) := hcl 0 _ rfl
          have cx1 : z0.val.cell? ⟨gl, fl + j * 4 + 1, none⟩ = some (.int .i64 x.src) := hcl 1 _ rfl
          have cx2 : z0.val.cell? ⟨gl, fl + j * 4 + 2, none⟩ = some (.int .i64 x.dst) := hcl 2 _ rfl
          have cx3 : z0.val.cell? ⟨gl, fl + j * 4 + 3, none⟩ = some (.int .i64 x.amt) := hcl 3 _ rfl
          have ca : z1.val.cell? ⟨gx, fx + j, none⟩ = some (.int .i64 a) := by have := hcx 0 _ rfl; simpa using this
          have j0 : (0 : Int) ≤ (j : Int) := by omega
          have jl : (j : Int) < (l.length : Int) := by omega
          have kl : (k : Int) < (l.length : Int) := by omega
          have Hs := Lib.hid (fnd_step hx Hy.out haj Hbk.out)
          have hconf := conflict_ok (actsOk_at Hok.out hx) (actsOk_at Hok.out Hy.out)
          have kc := fun w => iConflict_any x y w
          rw [hconf] at kc
          have Hlt := Lib.hid (fun h => lvl_lt (n := l.length) hjk hlt hx Hy.out (by rw [← Hlv.out]; exact haj) (by rw [← Hlv.out]; exact Hbk.out) h)
          clear hx haj hcl hcx hconf
          rcases hcf : conf x y with _ | _
          · rw [hcf] at kc
            have Hc := Lib.hid hcf; clear hcf
            rcases hfo : fnd l (lvlR l) k j with _ | _
            · rcases he : (a == b - 1) with _ | _
              all_goals
                go_wp2_with fail
                (refine wp_region_up (by kernel_rfl) (by kernel_rfl) ?_; (repeat (go_big_quiet_step ((go_at_call 17; exact Calls.up (kc _))))); refine wpQuiet_nil ?_; intro _ hw'; obtain ⟨zq, hw''⟩ := hw'; subst hw'')
                go_wp2_with fail
                (refine wp_region_up (by kernel_rfl) (by kernel_rfl) ?_; (repeat (go_big_quiet_step ((go_at_call 17; exact Calls.up (kc _))))); refine wpQuiet_nil ?_; intro _ hw'; obtain ⟨zq, hw''⟩ := hw'; subst hw'')
                go_wp2_with fail
                go_roundw
                case rel => exact ⟨j + 1, by go_num, by omega, by rw [Hs.out, Hc.out, hfo]; simp, (.of (by repeat (first | (with_reducible exact Ext.refl _) | (with_reducible refine Ext.up ?_ _) | (with_reducible refine Ext.alloc ?_ _) | (with_reducible refine Ext.drew ?_) | (with_reducible refine Ext.setRow ?_ (by first | exact LeS.le | exact LeS.add _ | (simp; done) | (simp; omega)) _) | (with_reducible refine Ext.setCell ?_ (by first | exact LeS.le | exact LeS.add _ | (simp; done) | (simp; omega)) _))))⟩
                case measure => simp [intOf]; omega
            · go_wp2_with fail
              (refine wp_region_up (by kernel_rfl) (by kernel_rfl) ?_; (repeat (go_big_quiet_step ((go_at_call 17; exact Calls.up (kc _))))); refine wpQuiet_nil ?_; intro _ hw'; obtain ⟨zq, hw''⟩ := hw'; subst hw'')
              go_wp2_with fail
              (refine wp_region_up (by kernel_rfl) (by kernel_rfl) ?_; (repeat (go_big_quiet_step ((go_at_call 17; exact Calls.up (kc _))))); refine wpQuiet_nil ?_; intro _ hw'; obtain ⟨zq, hw''⟩ := hw'; subst hw'')
              go_wp2_with fail
              go_roundw
              case rel => exact ⟨j + 1, by go_num, by omega, by rw [Hs.out, hfo]; rfl, (.of (by repeat (first | (with_reducible exact Ext.refl _) | (with_reducible refine Ext.up ?_ _) | (with_reducible refine Ext.alloc ?_ _) | (with_reducible refine Ext.drew ?_) | (with_reducible refine Ext.setRow ?_ (by first | exact LeS.le | exact LeS.add _ | (simp; done) | (simp; omega)) _) | (with_reducible refine Ext.setCell ?_ (by first | exact LeS.le | exact LeS.add _ | (simp; done) | (simp; omega)) _))))⟩
              case measure => simp [intOf]; omega
          · rw [hcf] at kc
            have hab := Hlt.out hcf
            have Hc := Lib.hid hcf; clear hcf
            rcases hfo : fnd l (lvlR l) k j with _ | _
            · rcases he : (a == b - 1) with _ | _
              all_goals
                go_wp2_with fail
                (refine wp_region_up (by kernel_rfl) (by kernel_rfl) ?_; (repeat (go_big_quiet_step ((go_at_call 17; exact Calls.up (kc _))))); refine wpQuiet_nil ?_; intro _ hw'; obtain ⟨zq, hw''⟩ := hw'; subst hw'')
                go_wp2_with fail
                (refine wp_region_up (by kernel_rfl) (by kernel_rfl) ?_; (repeat (go_big_quiet_step ((go_at_call 17; exact Calls.up (kc _))))); refine wpQuiet_nil ?_; intro _ hw'; obtain ⟨zq, hw''⟩ := hw'; subst hw'')
                go_wp2_with fail
                go_roundw
                case rel => exact ⟨j + 1, by go_num, by omega, by rw [Hs.out, Hc.out, hfo, he]; rfl, (.of (by repeat (first | (with_reducible exact Ext.refl _) | (with_reducible refine Ext.up ?_ _) | (with_reducible refine Ext.alloc ?_ _) | (with_reducible refine Ext.drew ?_) | (with_reducible refine Ext.setRow ?_ (by first | exact LeS.le | exact LeS.add _ | (simp; done) | (simp; omega)) _) | (with_reducible refine Ext.setCell ?_ (by first | exact LeS.le | exact LeS.add _ | (simp; done) | (simp; omega)) _))))⟩
                case measure => simp [intOf]; omega
            · go_wp2_with fail
              (refine wp_region_up (by kernel_rfl) (by kernel_rfl) ?_; (repeat (go_big_quiet_step ((go_at_call 17; exact Calls.up (kc _))))); refine wpQuiet_nil ?_; intro _ hw'; obtain ⟨zq, hw''⟩ := hw'; subst hw'')
              go_wp2_with fail
              (refine wp_region_up (by kernel_rfl) (by kernel_rfl) ?_; (repeat (go_big_quiet_step ((go_at_call 17; exact Calls.up (kc _))))); refine wpQuiet_nil ?_; intro _ hw'; obtain ⟨zq, hw''⟩ := hw'; subst hw'')
              go_wp2_with fail
              go_roundw
              case rel => exact ⟨j + 1, by go_num, by omega, by rw [Hs.out, hfo]; rfl, (.of (by repeat (first | (with_reducible exact Ext.refl _) | (with_reducible refine Ext.up ?_ _) | (with_reducible refine Ext.alloc ?_ _) | (with_reducible refine Ext.drew ?_) | (with_reducible refine Ext.setRow ?_ (by first | exact LeS.le | exact LeS.add _ | (simp; done) | (simp; omega)) _) | (with_reducible refine Ext.setCell ?_ (by first | exact LeS.le | exact LeS.add _ | (simp; done) | (simp; omega)) _))))⟩
              case measure => simp [intOf]; omega
        · obtain rfl : j = k := by omega
          have hff : fnd l (lvlR l) j j = true := by rw [Hlv.out]; exact Hf.out
          rw [hff]
          go_wp2_with fail
          go_roundw
          case rel => exact ⟨j + 1, by go_num, by omega, (.of (by repeat (first | (with_reducible exact Ext.refl _) | (with_reducible refine Ext.up ?_ _) | (with_reducible refine Ext.alloc ?_ _) | (with_reducible refine Ext.drew ?_) | (with_reducible refine Ext.setRow ?_ (by first | exact LeS.le | exact LeS.add _ | (simp; done) | (simp; omega)) _) | (with_reducible refine Ext.setCell ?_ (by first | exact LeS.le | exact LeS.add _ | (simp; done) | (simp; omega)) _))))⟩
          case measure => simp [intOf]; omega
    · go_wp2_with fail
      go_ret
      exact ⟨by first | rfl | simp, (.of (by repeat (first | (with_reducible exact Ext.refl _) | (with_reducible refine Ext.up ?_ _) | (with_reducible refine Ext.alloc ?_ _) | (with_reducible refine Ext.drew ?_) | (with_reducible refine Ext.setRow ?_ (by first | exact LeS.le | exact LeS.add _ | (simp; done) | (simp; omega)) _) | (with_reducible refine Ext.setCell ?_ (by first | exact LeS.le | exact LeS.add _ | (simp; done) | (simp; omega)) _))))⟩
end Go.Proofs.Ytldmigmnbmnaiaa
