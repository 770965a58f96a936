/- Walks: drawn trees with a number: l20At, DrawPathTo, DrawIsBefore. Walks: the law FnBlockTreeValid. Walks: draws of trees with a block: DrawStoreOf, DrawRightBlocks, DrawBranchLayers. Walks: stores that are compared by the laws. Walks: the law FnBranchLayers. The decoder of codes. -/
import Derived.Test.YteiemjebdhmnaaaGreatGLxTop36
import Derived.Test.YteiemjebdhmnaaaGreatGLxTop20
import Derived.Test.YteiemjebdhmnaaaGreatGLxTop18
import Derived.Test.YteiemjebdhmnaaaGreatGLxTop19
import Derived.Test.YteiemjebdhmnaaaGreatGLxTop30
import Derived.Test.YteiemjebdhmnaaaGreatGLxTop08
import Derived.Test.YteiemjebdhmnaaaGreatGLxTop01
set_option linter.unusedSimpArgs false
set_option linter.unusedVariables false
namespace Go.Proofs.YteiemjebdhmnaaaGreat
open Go Go.RowKit Go.Proofs

end Go.Proofs.YteiemjebdhmnaaaGreat
namespace Go.Proofs.YteiemjebdhmnaaaGreat
open Go Go.RowKit Go.Proofs

theorem SB.take {w : World} {p : Option Addr} {n c k : Nat} {cs : List BL} (h : SB w (.slice p n c) cs) (hk : k ≤ cs.length) : SB w (.slice p k c) (cs.take k) := by
  obtain ⟨bs, rfl, h2, h3⟩ := h
  exact ⟨bs.take k, by rw [List.map_take], h2.take (by simpa using hk), fun x hx => h3 x (List.mem_of_mem_take hx)⟩
end Go.Proofs.YteiemjebdhmnaaaGreat
namespace Go.Proofs.YteiemjebdhmnaaaGreat
open Go Go.RowKit Go.Proofs

set_option maxRecDepth 100000 in
theorem drawBranchLayers_any (bs : List Int) (v : Value) (w : World) (h : SL (RF encU) 1 w v bs) (hb : ∀ b ∈ bs, 0 ≤ b ∧ b ≤ 255) :
    Calls Tryz.prog 5 #[v] w fun e w' => ∃ (v0 v1 v2 : Value) (t : Tree), e = .returned (.agg #[v0, v1, v2]) ∧ Up w w' ∧ (1 ≤ t.bs.length ∧ t.bs.length ≤ 14) ∧ ST w' v0 v1 v2 t := by
  have H := Lib.hid h; clear h
  go_enter Tryz.func5, Tryz.ntmps5
  go_wp2_with fail
  refine (open_any bs v _ (H.out.up (by repeat (first | (with_reducible exact Ext.refl _) | (with_reducible refine Ext.up ?_ _) | (with_reducible refine Ext.alloc ?_ _) | (with_reducible refine Ext.drew ?_) | (with_reducible refine Ext.setRow ?_ (by first | exact LeS.le | exact LeS.add _ | (simp; done) | (simp; omega)) _) | (with_reducible refine Ext.setCell ?_ (by first | exact LeS.le | exact LeS.add _ | (simp; done) | (simp; omega)) _)))) hb).mono ?_; rintro e w' ⟨rb, rfl, ⟨z0, rfl⟩, hr⟩
  have H0 := Lib.hid hr
  have Hold := Lib.hid hr.old
  clear hr
  go_wp2_with fail
  refine (tree_any _ _ rb 0 9 H0.out (by omega) (by omega) (by omega)).mono ?_; rintro e w' ⟨u0, u1, u2, t, bs, rfl, _, hl, hc, ⟨z1, rfl⟩, hr, ho⟩
  obtain ⟨p0, c0, rfl, _, _⟩ := (ho.obase.sl Ent.enc_length).openc
  obtain ⟨p1, c1, rfl, _, _⟩ := (ho.obs.1.sl TB.enc_length).openc
  obtain ⟨p2, c2, rfl, _, _⟩ := (ho.opr.sl encI_length).openc
  have hz := z0.ext.size
  simp at hz
  have E : Ext (w.alloc (.cells #[.slice none 0 0, .slice none 0 0, .slice none 0 0] 27)) z1.val := Ext.upR z0.ext Hold.out z1
  have HO := Lib.hid (ho.lo (lo' := w.heap.size + 1) (by omega))
  have HC := Lib.hid hc
  clear ho hr hc
  obtain ⟨z2, hz2⟩ := Up.of E
  rw [hz2] at HO ⊢
  clear hz2 E z1
  go_wp2_with fail
  have r0 : z2.val.cell? ⟨w.heap.size, 0, none⟩ = some (.slice none 0 0) := by go_simp
  have r1 : z2.val.cell? ⟨w.heap.size, 1, none⟩ = some (.slice none 0 0) := by go_simp
  have r2 : z2.val.cell? ⟨w.heap.size, 2, none⟩ = some (.slice none 0 0) := by go_simp
  refine bodyPost_ret (v := .agg #[.slice p0 t.base.length c0, .slice p1 bs.length c1, .slice p2 t.pr.length c2]) (by simp [results, Tryz.results5, go_sem, r0, r1, r2]) rfl ?_
  exact ⟨_, _, _, t, rfl, (.of (by repeat (first | (with_reducible exact Ext.refl _) | (with_reducible refine Ext.up ?_ _) | (with_reducible refine Ext.alloc ?_ _) | (with_reducible refine Ext.drew ?_) | (with_reducible refine Ext.setRow ?_ (by first | exact LeS.le | exact LeS.add _ | (simp; done) | (simp; omega)) _) | (with_reducible refine Ext.setCell ?_ (by first | exact LeS.le | exact LeS.add _ | (simp; done) | (simp; omega)) _)))), hl, OTA.st' (show OTA 64 54 106 3 (w.heap.size + 1) _ _ _ _ t.base bs t.pr from ((HO.out.setOld _ _ (by dsimp only; omega)).setOld _ _ (by dsimp only; omega)).setOld _ _ (by dsimp only; omega)) HC.out⟩
end Go.Proofs.YteiemjebdhmnaaaGreat
namespace Go.Proofs.YteiemjebdhmnaaaGreat
open Go Go.RowKit Go.Proofs

set_option maxHeartbeats 1000000 in
theorem sameStore_same (l : List Ent) (v v' : Value) (w : World) (h : SL (RF Ent.enc) 2 w v l) (h' : SL (RF Ent.enc) 2 w v' l) :
    Calls Tryz.prog 11 #[v, v'] w fun e w' => e = .returned (.bool true) ∧ Up w w' := by
  obtain ⟨a, cap, rfl, hlen, hc⟩ := h.open
  obtain ⟨a', cap', rfl, _, hc'⟩ := h'.open
  go_enter Tryz.func11, Tryz.ntmps11
  go_wp2_with fail
  go_loopw [5] (fun s5 wr => ∃ (k : Nat), s5 = .int .i64 k ∧ k ≤ l.length ∧ Up w wr) (fun s5 _ => l.length - (intOf s5).toNat)
  case atStart => exact ⟨0, rfl, Nat.zero_le _, .of (Ext.refl _)⟩
  case round =>
    obtain ⟨k, rfl, hk, ⟨z, rfl⟩⟩ := hrel
    by_cases hlt : k < l.length
    · obtain ⟨x, hxk⟩ := getElem?_some_of_lt hlt
      obtain ⟨b, off, rfl, hb, hcc⟩ := hc k x hxk
      obtain ⟨b', off', rfl, hb', hdd⟩ := hc' k x hxk
      have c0 : w.cell? ⟨b, off + k * 2, none⟩ = some (.int .i64 x.k) := hcc 0 _ rfl
      have d0 : w.cell? ⟨b', off' + k * 2, none⟩ = some (.int .i64 x.k) := hdd 0 _ rfl
      have c1 : w.cell? ⟨b, off + k * 2 + 1, none⟩ = some (.int .i64 x.v) := hcc 1 _ rfl
      have d1 : w.cell? ⟨b', off' + k * 2 + 1, none⟩ = some (.int .i64 x.v) := hdd 1 _ rfl
      have k0 : (0 : Int) ≤ (k : Int) := by omega
      clear hc hcc hc' hdd hxk
      go_wp2_with fail
      (refine wp_region_up (by kernel_rfl) (by kernel_rfl) ?_; (repeat (go_big_quiet_step (fail))); refine wpQuiet_nil ?_; intro _ hw'; obtain ⟨zq, hw''⟩ := hw'; subst hw'')
      go_wp2_with fail
      go_roundw
      case rel => exact ⟨k + 1, by go_num, by omega, (.of (by repeat (first | (with_reducible exact Ext.refl _) | (with_reducible refine Ext.up ?_ _) | (with_reducible refine Ext.alloc ?_ _) | (with_reducible refine Ext.drew ?_) | (with_reducible refine Ext.setRow ?_ (by first | exact LeS.le | exact LeS.add _ | (simp; done) | (simp; omega)) _) | (with_reducible refine Ext.setCell ?_ (by first | exact LeS.le | exact LeS.add _ | (simp; done) | (simp; omega)) _))))⟩
      case measure => simp [intOf]; omega
    · go_wp2_with fail
      go_ret
      exact ⟨rfl, z, rfl⟩
end Go.Proofs.YteiemjebdhmnaaaGreat
namespace Go.Proofs.YteiemjebdhmnaaaGreat
open Go Go.RowKit Go.Proofs

set_option maxHeartbeats 1000000 in
theorem sameLayers_same (es : List Lyr) (v v' : Value) (w : World) (h : SY w v es) (h' : SY w v' es) :
    Calls Tryz.prog 7 #[v, v'] w fun e w' => e = .returned (.bool true) ∧ Up w w' := by
  obtain ⟨a, cap, rfl, hlen, hcap, hc⟩ := h.open
  obtain ⟨a', cap', rfl, _, hcap', hc'⟩ := h'.open
  clear h h' hcap hcap'
  go_enter Tryz.func7, Tryz.ntmps7
  go_wp2_with fail
  go_loopw [5] (fun s5 wr => ∃ (k : Nat), s5 = .int .i64 k ∧ k ≤ es.length ∧ Up w wr) (fun s5 _ => es.length - (intOf s5).toNat)
  case atStart => exact ⟨0, rfl, Nat.zero_le _, .of (Ext.refl _)⟩
  case round =>
    obtain ⟨k, rfl, hk, ⟨z, rfl⟩⟩ := hrel
    by_cases hlt : k < es.length
    · obtain ⟨x, hxk⟩ := getElem?_some_of_lt hlt
      obtain ⟨b, off, q1, d1, rfl, hb, e0, e1, s1⟩ := hc k x hxk
      obtain ⟨b', off', q3, d3, rfl, hb', g0, g1, s3⟩ := hc' k x hxk
      have k0 : (0 : Int) ≤ (k : Int) := by omega
      have S1 := Lib.hid s1; have S3 := Lib.hid s3
      clear hc hc' hxk s1 s3
      go_wp2_with fail
      (refine wp_region_up (by kernel_rfl) (by kernel_rfl) ?_; (repeat (go_big_quiet_step ((go_at_call 11; exact Calls.up (sameStore_same x.w _ _ _ (S1.out.up (by repeat (first | (with_reducible exact Ext.refl _) | (with_reducible refine Ext.up ?_ _) | (with_reducible refine Ext.alloc ?_ _) | (with_reducible refine Ext.drew ?_) | (with_reducible refine Ext.setRow ?_ (by first | exact LeS.le | exact LeS.add _ | (simp; done) | (simp; omega)) _) | (with_reducible refine Ext.setCell ?_ (by first | exact LeS.le | exact LeS.add _ | (simp; done) | (simp; omega)) _)))) (S3.out.up (by repeat (first | (with_reducible exact Ext.refl _) | (with_reducible refine Ext.up ?_ _) | (with_reducible refine Ext.alloc ?_ _) | (with_reducible refine Ext.drew ?_) | (with_reducible refine Ext.setRow ?_ (by first | exact LeS.le | exact LeS.add _ | (simp; done) | (simp; omega)) _) | (with_reducible refine Ext.setCell ?_ (by first | exact LeS.le | exact LeS.add _ | (simp; done) | (simp; omega)) _))))))))); refine wpQuiet_nil ?_; intro _ hw'; obtain ⟨zq, hw''⟩ := hw'; subst hw'')
      go_wp2_with fail
      go_roundw
      case rel => exact ⟨k + 1, by go_num, by omega, (.of (by repeat (first | (with_reducible exact Ext.refl _) | (with_reducible refine Ext.up ?_ _) | (with_reducible refine Ext.alloc ?_ _) | (with_reducible refine Ext.drew ?_) | (with_reducible refine Ext.setRow ?_ (by first | exact LeS.le | exact LeS.add _ | (simp; done) | (simp; omega)) _) | (with_reducible refine Ext.setCell ?_ (by first | exact LeS.le | exact LeS.add _ | (simp; done) | (simp; omega)) _))))⟩
      case measure => simp [intOf]; omega
    · go_wp2_with fail
      go_ret
      exact ⟨rfl, z, rfl⟩
theorem lyrsR_yes {t : Tree} (h : t.ok = true) : lyrsR t = lyrsTo t t.bs.length := by unfold lyrsR; rw [if_pos h]
theorem lyrsR_ok {t : Tree} (h : t.ok = true) : lyrsOk (lyrsR t) = true ∧ (lyrsR t).length = t.bs.length ∧ ∀ n : Nat, n < t.bs.length → storeOf (seenV t.base (lyrsR t) (n : Int)) = storeR t (n : Int) := by
  rw [lyrsR_yes h]
  refine ⟨lyrsTo_okk h (Nat.le_refl _), lyrsTo_len _ _, fun n hn => ?_⟩
  rw [lyr_seen h (Nat.le_refl _) n hn, storeR_yes h (hasN_iff.2 ⟨by omega, by omega⟩)]
set_option maxRecDepth 100000 in
set_option maxHeartbeats 4000000 in
theorem FnBranchLayers_any (bs : List Int) (v : Value) (w : World) (h : SL (RF encU) 1 w v bs) (hb : ∀ b ∈ bs, 0 ≤ b ∧ b ≤ 255) :
    Calls Tryz.prog 3 #[v] w fun e w' => e = .returned (.bool true) ∧ Up w w' := by
  have H := Lib.hid h
  obtain ⟨p, c, rfl, _, _⟩ := h.openc
  clear h
  by_cases hl : 1048576 < bs.length
  · go_enter Tryz.func3, Tryz.ntmps3
    go_wp2_with fail
    go_ret
    exact ⟨rfl, (.of (by repeat (first | (with_reducible exact Ext.refl _) | (with_reducible refine Ext.up ?_ _) | (with_reducible refine Ext.alloc ?_ _) | (with_reducible refine Ext.drew ?_) | (with_reducible refine Ext.setRow ?_ (by first | exact LeS.le | exact LeS.add _ | (simp; done) | (simp; omega)) _) | (with_reducible refine Ext.setCell ?_ (by first | exact LeS.le | exact LeS.add _ | (simp; done) | (simp; omega)) _))))⟩
  go_enter Tryz.func3, Tryz.ntmps3
  go_wp2_with fail
  refine (drawBranchLayers_any bs _ _ (H.out.up (by repeat (first | (with_reducible exact Ext.refl _) | (with_reducible refine Ext.up ?_ _) | (with_reducible refine Ext.alloc ?_ _) | (with_reducible refine Ext.drew ?_) | (with_reducible refine Ext.setRow ?_ (by first | exact LeS.le | exact LeS.add _ | (simp; done) | (simp; omega)) _) | (with_reducible refine Ext.setCell ?_ (by first | exact LeS.le | exact LeS.add _ | (simp; done) | (simp; omega)) _)))) hb).mono ?_; rintro e w' ⟨v0, v1, v2, t, rfl, ⟨z0, rfl⟩, -, hs⟩
  obtain ⟨p0, c0, rfl, _, _⟩ := hs.base.openc
  obtain ⟨p1, c1, rfl, hlb, hcb, hc1⟩ := hs.bs.open
  obtain ⟨p2, c2, rfl, hlp, hc2⟩ := hs.pr.open
  have HS := Lib.hid hs; have HB := Lib.hid hs.base
  clear hs hc1 hc2
  have ki := fun w h => iBranchLayers_any t (.slice p0 t.base.length c0) (.slice p1 t.bs.length c1) (.slice p2 t.pr.length c2) w h
  have ks := fun w h => sBranchLayers_any t (.slice p0 t.base.length c0) (.slice p1 t.bs.length c1) (.slice p2 t.pr.length c2) w h
  have kv := fun w h => sTreeValid_any t (.slice p0 t.base.length c0) (.slice p1 t.bs.length c1) (.slice p2 t.pr.length c2) w h
  go_wp2_with fail
  refine (ki _ (HS.out.up (by repeat (first | (with_reducible exact Ext.refl _) | (with_reducible refine Ext.up ?_ _) | (with_reducible refine Ext.alloc ?_ _) | (with_reducible refine Ext.drew ?_) | (with_reducible refine Ext.setRow ?_ (by first | exact LeS.le | exact LeS.add _ | (simp; done) | (simp; omega)) _) | (with_reducible refine Ext.setCell ?_ (by first | exact LeS.le | exact LeS.add _ | (simp; done) | (simp; omega)) _))))).mono ?_; rintro e w' ⟨vx, ts, rfl, ⟨z1, rfl⟩, ox, -, hts⟩
  have sx := ox.sy
  rw [hts] at sx
  clear ox hts
  rcases hok : t.ok with _ | _
  · have e0 : lyrsR t = [] := by unfold lyrsR; rw [hok]; rfl
    simp only [e0] at ks sx
    simp only [hok] at kv
    obtain ⟨px, cx, rfl⟩ := sx.openc
    have SX := Lib.hid sx
    clear e0 hok sx
    go_wp2_with (first | ((go_at_call 8; refine (ks _ (HS.out.up (by repeat (first | (with_reducible exact Ext.refl _) | (with_reducible refine Ext.up ?_ _) | (with_reducible refine Ext.alloc ?_ _) | (with_reducible refine Ext.drew ?_) | (with_reducible refine Ext.setRow ?_ (by first | exact LeS.le | exact LeS.add _ | (simp; done) | (simp; omega)) _) | (with_reducible refine Ext.setCell ?_ (by first | exact LeS.le | exact LeS.add _ | (simp; done) | (simp; omega)) _))))).mono ?_; rintro e w' ⟨vy, rfl, ⟨z2, rfl⟩, sy⟩); have SYY := Lib.hid sy; clear sy) | (go_at_call 7; refine (sameLayers_same [] _ _ _ (SX.out.up (by repeat (first | (with_reducible exact Ext.refl _) | (with_reducible refine Ext.up ?_ _) | (with_reducible refine Ext.alloc ?_ _) | (with_reducible refine Ext.drew ?_) | (with_reducible refine Ext.setRow ?_ (by first | exact LeS.le | exact LeS.add _ | (simp; done) | (simp; omega)) _) | (with_reducible refine Ext.setCell ?_ (by first | exact LeS.le | exact LeS.add _ | (simp; done) | (simp; omega)) _)))) (SYY.out.up (by repeat (first | (with_reducible exact Ext.refl _) | (with_reducible refine Ext.up ?_ _) | (with_reducible refine Ext.alloc ?_ _) | (with_reducible refine Ext.drew ?_) | (with_reducible refine Ext.setRow ?_ (by first | exact LeS.le | exact LeS.add _ | (simp; done) | (simp; omega)) _) | (with_reducible refine Ext.setCell ?_ (by first | exact LeS.le | exact LeS.add _ | (simp; done) | (simp; omega)) _))))).mono ?_; rintro e w' ⟨rfl, z3, rfl⟩) | (go_at_call 9; refine (kv _ (HS.out.up (by repeat (first | (with_reducible exact Ext.refl _) | (with_reducible refine Ext.up ?_ _) | (with_reducible refine Ext.alloc ?_ _) | (with_reducible refine Ext.drew ?_) | (with_reducible refine Ext.setRow ?_ (by first | exact LeS.le | exact LeS.add _ | (simp; done) | (simp; omega)) _) | (with_reducible refine Ext.setCell ?_ (by first | exact LeS.le | exact LeS.add _ | (simp; done) | (simp; omega)) _))))).mono ?_; rintro e w' ⟨rfl, z4, rfl⟩) | (go_at_call 10; refine (alive_any _).mono ?_; rintro e w' ⟨rfl, z5, rfl⟩))
    go_ret
    exact ⟨rfl, (.of (by repeat (first | (with_reducible exact Ext.refl _) | (with_reducible refine Ext.up ?_ _) | (with_reducible refine Ext.alloc ?_ _) | (with_reducible refine Ext.drew ?_) | (with_reducible refine Ext.setRow ?_ (by first | exact LeS.le | exact LeS.add _ | (simp; done) | (simp; omega)) _) | (with_reducible refine Ext.setCell ?_ (by first | exact LeS.le | exact LeS.add _ | (simp; done) | (simp; omega)) _))))⟩
  simp only [hok] at kv
  obtain ⟨hlo, hll, hst⟩ := lyrsR_ok hok
  have hbk := base_ok hok
  generalize lyrsR t = L at *
  obtain ⟨px, cx, rfl⟩ := sx.openc
  have SX := Lib.hid sx
  have kl := fun n w h h' hn => iLayerStore_yes t.base L (.slice p0 t.base.length c0) (.slice px L.length cx) n w h h' hbk hlo hn
  have kvl := fun w h => iLayersValid_yes L (.slice px L.length cx) w h hlo
  have kst := fun n w h => iStoreOf_any t (.slice p0 t.base.length c0) (.slice p1 t.bs.length c1) (.slice p2 t.pr.length c2) n w h
  have HST := Lib.hid hst
  have HLL := Lib.hid hll
  clear sx hok hlo hst hbk hll
  go_wp2_with (first | ((go_at_call 8; refine (ks _ (HS.out.up (by repeat (first | (with_reducible exact Ext.refl _) | (with_reducible refine Ext.up ?_ _) | (with_reducible refine Ext.alloc ?_ _) | (with_reducible refine Ext.drew ?_) | (with_reducible refine Ext.setRow ?_ (by first | exact LeS.le | exact LeS.add _ | (simp; done) | (simp; omega)) _) | (with_reducible refine Ext.setCell ?_ (by first | exact LeS.le | exact LeS.add _ | (simp; done) | (simp; omega)) _))))).mono ?_; rintro e w' ⟨vy, rfl, ⟨z2, rfl⟩, sy⟩); have SYY := Lib.hid sy; clear sy) | (go_at_call 7; refine (sameLayers_same L _ _ _ (SX.out.up (by repeat (first | (with_reducible exact Ext.refl _) | (with_reducible refine Ext.up ?_ _) | (with_reducible refine Ext.alloc ?_ _) | (with_reducible refine Ext.drew ?_) | (with_reducible refine Ext.setRow ?_ (by first | exact LeS.le | exact LeS.add _ | (simp; done) | (simp; omega)) _) | (with_reducible refine Ext.setCell ?_ (by first | exact LeS.le | exact LeS.add _ | (simp; done) | (simp; omega)) _)))) (SYY.out.up (by repeat (first | (with_reducible exact Ext.refl _) | (with_reducible refine Ext.up ?_ _) | (with_reducible refine Ext.alloc ?_ _) | (with_reducible refine Ext.drew ?_) | (with_reducible refine Ext.setRow ?_ (by first | exact LeS.le | exact LeS.add _ | (simp; done) | (simp; omega)) _) | (with_reducible refine Ext.setCell ?_ (by first | exact LeS.le | exact LeS.add _ | (simp; done) | (simp; omega)) _))))).mono ?_; rintro e w' ⟨rfl, z3, rfl⟩) | (go_at_call 9; refine (kv _ (HS.out.up (by repeat (first | (with_reducible exact Ext.refl _) | (with_reducible refine Ext.up ?_ _) | (with_reducible refine Ext.alloc ?_ _) | (with_reducible refine Ext.drew ?_) | (with_reducible refine Ext.setRow ?_ (by first | exact LeS.le | exact LeS.add _ | (simp; done) | (simp; omega)) _) | (with_reducible refine Ext.setCell ?_ (by first | exact LeS.le | exact LeS.add _ | (simp; done) | (simp; omega)) _))))).mono ?_; rintro e w' ⟨rfl, z4, rfl⟩))
  go_loopw [5] (fun s5 wr => ∃ (k : Nat), s5 = .int .i64 k ∧ k ≤ t.bs.length ∧ Up z4.val wr) (fun s5 _ => t.bs.length - (intOf s5).toNat)
  case atStart => exact ⟨0, rfl, Nat.zero_le _, (.of (by repeat (first | (with_reducible exact Ext.refl _) | (with_reducible refine Ext.up ?_ _) | (with_reducible refine Ext.alloc ?_ _) | (with_reducible refine Ext.drew ?_) | (with_reducible refine Ext.setRow ?_ (by first | exact LeS.le | exact LeS.add _ | (simp; done) | (simp; omega)) _) | (with_reducible refine Ext.setCell ?_ (by first | exact LeS.le | exact LeS.add _ | (simp; done) | (simp; omega)) _))))⟩
  case round =>
    obtain ⟨k, rfl, hk, ⟨z, rfl⟩⟩ := hrel
    by_cases hlt : k < t.bs.length
    · have hsk := HST.out k hlt
      have hkl := fun w h h' => kl (k : Int) w h h' (by omega) (by have := HLL.out; omega)
      have hks := fun w h => kst (k : Int) w h
      rw [hsk] at hkl
      generalize storeR t (k : Int) = S at *
      have k0 : (0 : Int) ≤ (k : Int) := by omega
      have kb : (k : Int) < (t.bs.length : Int) := by omega
      clear hsk kl kst
      go_wp2_with fail
      (go_region_held3 (fun w' => (∀ n i, ∀ [LtS n z.val], w'.cell? ⟨n, i, none⟩ = World.cell? z.val ⟨n, i, none⟩) ∧ Ext z.val w') ((refine S_of_ext ?_; (repeat (first | (with_reducible exact Ext.refl _) | (with_reducible refine Ext.up ?_ _) | (with_reducible refine Ext.alloc ?_ _) | (with_reducible refine Ext.drew ?_) | (with_reducible refine Ext.setRow ?_ (by first | exact LeS.le | exact LeS.add _ | (simp; done) | (simp; omega)) _) | (with_reducible refine Ext.setCell ?_ (by first | exact LeS.le | exact LeS.add _ | (simp; done) | (simp; omega)) _))); done)) (first | ((go_at_call 12; refine (hkl _ (HB.out.up (by repeat (first | (with_reducible exact Ext.refl _) | (with_reducible refine Ext.up ?_ _) | (with_reducible refine Ext.alloc ?_ _) | (with_reducible refine Ext.drew ?_) | (with_reducible refine Ext.setRow ?_ (by first | exact LeS.le | exact LeS.add _ | (simp; done) | (simp; omega)) _) | (with_reducible refine Ext.setCell ?_ (by first | exact LeS.le | exact LeS.add _ | (simp; done) | (simp; omega)) _)))) (SX.out.up (by repeat (first | (with_reducible exact Ext.refl _) | (with_reducible refine Ext.up ?_ _) | (with_reducible refine Ext.alloc ?_ _) | (with_reducible refine Ext.drew ?_) | (with_reducible refine Ext.setRow ?_ (by first | exact LeS.le | exact LeS.add _ | (simp; done) | (simp; omega)) _) | (with_reducible refine Ext.setCell ?_ (by first | exact LeS.le | exact LeS.add _ | (simp; done) | (simp; omega)) _))))).mono ?_; rintro e w' ⟨vm, rfl, ⟨z6, rfl⟩, om⟩); obtain ⟨p6, c6, hvm, _, _⟩ := (om.sl Ent.enc_length).openc; subst hvm; have OM := Lib.hid (om.sl Ent.enc_length); clear om) | ((go_at_call 13; refine (hks _ (HS.out.up (by repeat (first | (with_reducible exact Ext.refl _) | (with_reducible refine Ext.up ?_ _) | (with_reducible refine Ext.alloc ?_ _) | (with_reducible refine Ext.drew ?_) | (with_reducible refine Ext.setRow ?_ (by first | exact LeS.le | exact LeS.add _ | (simp; done) | (simp; omega)) _) | (with_reducible refine Ext.setCell ?_ (by first | exact LeS.le | exact LeS.add _ | (simp; done) | (simp; omega)) _))))).mono ?_; rintro e w' ⟨vn, rfl, ⟨z7, rfl⟩, on⟩); obtain ⟨p7, c7, hvn, _, _⟩ := (on.sl Ent.enc_length).openc; subst hvn; have ON := Lib.hid (on.sl Ent.enc_length); clear on) | (go_at_call 11; refine (sameStore_same S _ _ _ (OM.out.up (by repeat (first | (with_reducible exact Ext.refl _) | (with_reducible refine Ext.up ?_ _) | (with_reducible refine Ext.alloc ?_ _) | (with_reducible refine Ext.drew ?_) | (with_reducible refine Ext.setRow ?_ (by first | exact LeS.le | exact LeS.add _ | (simp; done) | (simp; omega)) _) | (with_reducible refine Ext.setCell ?_ (by first | exact LeS.le | exact LeS.add _ | (simp; done) | (simp; omega)) _)))) (ON.out.up (by repeat (first | (with_reducible exact Ext.refl _) | (with_reducible refine Ext.up ?_ _) | (with_reducible refine Ext.alloc ?_ _) | (with_reducible refine Ext.drew ?_) | (with_reducible refine Ext.setRow ?_ (by first | exact LeS.le | exact LeS.add _ | (simp; done) | (simp; omega)) _) | (with_reducible refine Ext.setCell ?_ (by first | exact LeS.le | exact LeS.add _ | (simp; done) | (simp; omega)) _))))).mono ?_; rintro e w' ⟨rfl, z8, rfl⟩)))
      all_goals
        go_wp2_with fail
        go_roundw
        case rel => exact ⟨k + 1, by go_num, by omega, (.of (by repeat (first | (with_reducible exact Ext.refl _) | (with_reducible refine Ext.up ?_ _) | (with_reducible refine Ext.alloc ?_ _) | (with_reducible refine Ext.drew ?_) | (with_reducible refine Ext.setRow ?_ (by first | exact LeS.le | exact LeS.add _ | (simp; done) | (simp; omega)) _) | (with_reducible refine Ext.setCell ?_ (by first | exact LeS.le | exact LeS.add _ | (simp; done) | (simp; omega)) _))))⟩
        case measure => simp [intOf]; omega
    · obtain rfl : k = t.bs.length := by omega
      have hll2 : ((L.length : Int) == (t.bs.length : Int)) = true := by rw [HLL.out]; simp
      clear kl kst
      go_wp2_with (first | (go_at_call 14; refine (kvl _ (SX.out.up (by repeat (first | (with_reducible exact Ext.refl _) | (with_reducible refine Ext.up ?_ _) | (with_reducible refine Ext.alloc ?_ _) | (with_reducible refine Ext.drew ?_) | (with_reducible refine Ext.setRow ?_ (by first | exact LeS.le | exact LeS.add _ | (simp; done) | (simp; omega)) _) | (with_reducible refine Ext.setCell ?_ (by first | exact LeS.le | exact LeS.add _ | (simp; done) | (simp; omega)) _))))).mono ?_; rintro e w' ⟨rfl, z9, rfl⟩))
      go_ret
      exact ⟨rfl, (.of (by repeat (first | (with_reducible exact Ext.refl _) | (with_reducible refine Ext.up ?_ _) | (with_reducible refine Ext.alloc ?_ _) | (with_reducible refine Ext.drew ?_) | (with_reducible refine Ext.setRow ?_ (by first | exact LeS.le | exact LeS.add _ | (simp; done) | (simp; omega)) _) | (with_reducible refine Ext.setCell ?_ (by first | exact LeS.le | exact LeS.add _ | (simp; done) | (simp; omega)) _))))⟩
end Go.Proofs.YteiemjebdhmnaaaGreat
namespace Go.Proofs.YteiemjebdhmnaaaGreat
open Go.ChangeShapes Go.WideShapes Go.ChangeAt Go.RowKit

def RByte (_ : World) (cs : List Value) (n : Int) : Prop := cs = encU n ∧ 0 ≤ n ∧ n ≤ 255
theorem SL.of_byte {w : World} {v : Value} {l : List Int} (h : SL RByte 1 w v l) : SL (RF encU) 1 w v l ∧ ∀ b ∈ l, 0 ≤ b ∧ b ≤ 255 := by
  obtain ⟨a, cap, hv, hl, hc⟩ := h
  refine ⟨⟨a, cap, hv, hl, fun hne => ?_⟩, fun b hb => ?_⟩
  · obtain ⟨b, off, ha, hb, hx⟩ := hc hne
    refine ⟨b, off, ha, hb, fun i x hi => ?_⟩
    obtain ⟨cs, h1, h2, h3⟩ := hx i x hi
    exact ⟨cs, h1, h2, h3.1⟩
  · obtain ⟨i, hi⟩ := List.getElem?_of_mem hb
    obtain ⟨_, _, _, _, hx⟩ := hc (by intro e; subst e; simp at hb)
    obtain ⟨_, _, _, h3⟩ := hx i b hi
    exact h3.2
theorem dec_Byte : Dec Tryz.prog 5 1 RByte := by
  intro H enc W sp held fuel cs x h
  obtain ⟨n, rfl, _, hw⟩ := DataW.trod_int (k := .u8) Tryz.underlying5 h
  have hb : 0 ≤ n ∧ n ≤ 255 := by
    simp [Lit.wf, IntKind.min, IntKind.max, IntKind.signed, IntKind.bits] at hw
    omega
  exact ⟨rfl, n, rfl, hb.1, hb.2⟩
theorem dec_Bytes : Dec Tryz.prog 22 1 (RSl RByte 1) := dec_slice Tryz.underlying22 (by kernel_rfl) (by decide) dec_Byte
end Go.Proofs.YteiemjebdhmnaaaGreat
