/- Walks: the law FnBlockTreeValid. -/
import Derived.Test.YtphkimbhjfjjkaaGBSTop30
import Derived.Test.YtphkimbhjfjjkaaGBSTop25
import Derived.Test.YtphkimbhjfjjkaaGBSTop13
import Derived.Test.YtphkimbhjfjjkaaGBSTop14
set_option linter.unusedSimpArgs false
set_option linter.unusedVariables false
namespace Go.Proofs.Ytphkimbhjfjjkaa
open Go Go.RowKit Go.Proofs

theorem SB.take {w : World} {p : Option Addr} {n c k : Nat} {cs : List BL} (h : SB w (.slice p n c) cs) (hk : k ≤ cs.length) : SB w (.slice p k c) (cs.take k) := by
  obtain ⟨bs, rfl, h2, h3⟩ := h
  exact ⟨bs.take k, by rw [List.map_take], h2.take (by simpa using hk), fun x hx => h3 x (List.mem_of_mem_take hx)⟩
set_option maxRecDepth 100000 in
theorem drawBlockTreeValid_any (bs : List Int) (v : Value) (w : World) (h : SL (RF encU) 1 w v bs) (hb : ∀ b ∈ bs, 0 ≤ b ∧ b ≤ 255) :
    Calls Try.prog 45 #[v] w fun e w' => ∃ (v0 v1 v2 : Value) (t : Tree), e = .returned (.agg #[v0, v1, v2]) ∧ Up w w' ∧ (1 ≤ t.bs.length ∧ t.bs.length ≤ 14) ∧ ST w' v0 v1 v2 t := by
  have H := Lib.hid h; clear h
  go_enter Try.func45, Try.ntmps45
  go_wp2_with fail
  refine (open_any bs v _ (H.out.up (by repeat (first | (with_reducible exact Ext.refl _) | (with_reducible refine Ext.up ?_ _) | (with_reducible refine Ext.alloc ?_ _) | (with_reducible refine Ext.drew ?_) | (with_reducible refine Ext.setRow ?_ (by first | exact LeS.le | exact LeS.add _ | (simp; done) | (simp; omega)) _) | (with_reducible refine Ext.setCell ?_ (by first | exact LeS.le | exact LeS.add _ | (simp; done) | (simp; omega)) _)))) hb).mono ?_; rintro e w' ⟨rb, rfl, ⟨z0, rfl⟩, hr⟩
  have H0 := Lib.hid hr
  have Hold := Lib.hid hr.old
  clear hr
  go_wp2_with fail
  refine (tree_any _ _ rb 0 2 H0.out (by omega) (by omega) (by omega)).mono ?_; rintro e w' ⟨u0, u1, u2, t, bs, rfl, _, hl, hc, ⟨z1, rfl⟩, hr, ho⟩
  obtain ⟨p0, c0, rfl, _, _⟩ := (ho.obase.sl Ent.enc_length).openc
  obtain ⟨p1, c1, rfl, _, _⟩ := (ho.obs.1.sl TB.enc_length).openc
  obtain ⟨p2, c2, rfl, _, _⟩ := (ho.opr.sl encI_length).openc
  have hz := z0.ext.size
  simp at hz
  have E : Ext (w.alloc (.cells #[.slice none 0 0, .slice none 0 0, .slice none 0 0] 42)) z1.val := Ext.upR z0.ext Hold.out z1
  have HO := Lib.hid (ho.lo (lo' := w.heap.size + 1) (by omega))
  have HC := Lib.hid hc
  clear ho hr hc
  obtain ⟨z2, hz2⟩ := Up.of E
  rw [hz2] at HO ⊢
  clear hz2 E z1
  go_wp2_with fail
  have r0 : z2.val.cell? ⟨w.heap.size, 0, none⟩ = some (.slice none 0 0) := by go_simp
  have r1 : z2.val.cell? ⟨w.heap.size, 1, none⟩ = some (.slice none 0 0) := by go_simp
  have r2 : z2.val.cell? ⟨w.heap.size, 2, none⟩ = some (.slice none 0 0) := by go_simp
  refine bodyPost_ret (v := .agg #[.slice p0 t.base.length c0, .slice p1 bs.length c1, .slice p2 t.pr.length c2]) (by simp [results, Try.results45, go_sem, r0, r1, r2]) rfl ?_
  exact ⟨_, _, _, t, rfl, (.of (by repeat (first | (with_reducible exact Ext.refl _) | (with_reducible refine Ext.up ?_ _) | (with_reducible refine Ext.alloc ?_ _) | (with_reducible refine Ext.drew ?_) | (with_reducible refine Ext.setRow ?_ (by first | exact LeS.le | exact LeS.add _ | (simp; done) | (simp; omega)) _) | (with_reducible refine Ext.setCell ?_ (by first | exact LeS.le | exact LeS.add _ | (simp; done) | (simp; omega)) _)))), hl, OTA.st' (show OTA 75 27 71 3 (w.heap.size + 1) _ _ _ _ t.base bs t.pr from ((HO.out.setOld _ _ (by dsimp only; omega)).setOld _ _ (by dsimp only; omega)).setOld _ _ (by dsimp only; omega)) HC.out⟩
set_option maxRecDepth 100000 in
set_option maxHeartbeats 4000000 in
theorem FnBlockTreeValid_any (bs : List Int) (v : Value) (w : World) (h : SL (RF encU) 1 w v bs) (hb : ∀ b ∈ bs, 0 ≤ b ∧ b ≤ 255) :
    Calls Try.prog 11 #[v] w fun e w' => e = .returned (.bool true) ∧ Up w w' := by
  have H := Lib.hid h
  obtain ⟨p, c, rfl, _, _⟩ := h.openc
  clear h
  by_cases hl : 1048576 < bs.length
  · go_enter Try.func11, Try.ntmps11
    go_wp2_with fail
    go_ret
    exact ⟨rfl, (.of (by repeat (first | (with_reducible exact Ext.refl _) | (with_reducible refine Ext.up ?_ _) | (with_reducible refine Ext.alloc ?_ _) | (with_reducible refine Ext.drew ?_) | (with_reducible refine Ext.setRow ?_ (by first | exact LeS.le | exact LeS.add _ | (simp; done) | (simp; omega)) _) | (with_reducible refine Ext.setCell ?_ (by first | exact LeS.le | exact LeS.add _ | (simp; done) | (simp; omega)) _))))⟩
  go_enter Try.func11, Try.ntmps11
  go_wp2_with fail
  refine (drawBlockTreeValid_any bs _ _ (H.out.up (by repeat (first | (with_reducible exact Ext.refl _) | (with_reducible refine Ext.up ?_ _) | (with_reducible refine Ext.alloc ?_ _) | (with_reducible refine Ext.drew ?_) | (with_reducible refine Ext.setRow ?_ (by first | exact LeS.le | exact LeS.add _ | (simp; done) | (simp; omega)) _) | (with_reducible refine Ext.setCell ?_ (by first | exact LeS.le | exact LeS.add _ | (simp; done) | (simp; omega)) _)))) hb).mono ?_; rintro e w' ⟨v0, v1, v2, t, rfl, ⟨z0, rfl⟩, ⟨hl1, hl14⟩, hs⟩
  obtain ⟨p0, c0, rfl, _, _⟩ := hs.base.openc
  obtain ⟨p1, c1, rfl, hlb, hcb⟩ := hs.bs.openc
  obtain ⟨p2, c2, rfl, hlp, hcp⟩ := hs.pr.openc
  have HS := Lib.hid hs
  clear hs
  have ki := fun w h => iTreeValid_any t (.slice p0 t.base.length c0) (.slice p1 t.bs.length c1) (.slice p2 t.pr.length c2) w h
  have ks := fun w h => sTreeValid_any t (.slice p0 t.base.length c0) (.slice p1 t.bs.length c1) (.slice p2 t.pr.length c2) w h
  have kn := fun w h => iTreeValid_any ⟨t.base, [], []⟩ (.slice p0 t.base.length c0) (.slice none 0 0) (.slice none 0 0) w h
  simp only [Tree.none_ok] at kn
  have hn : ∀ w', Ext z0.val w' → ST w' (.slice p0 t.base.length c0) (.slice none 0 0) (.slice none 0 0) ⟨t.base, [], []⟩ := fun w' hE => ⟨HS.out.base.up hE, ⟨[], rfl, SL.nil _ _ _ _ _, by simp⟩, SL.nil _ _ _ _ _⟩
  obtain ⟨k, hk, hk1⟩ : ∃ k : Nat, IntKind.i64.wrap ((t.bs.length : Int) - 1) = (k : Int) ∧ k + 1 = t.bs.length := ⟨t.bs.length - 1, by rw [IntWalk.i64_in _ (by omega)]; omega, by omega⟩
  have HK1 := Lib.hid hk1
  have HN := Lib.hid hn
  clear hn
  rcases hok : t.ok with _ | _
  · simp only [hok] at ki ks
    clear hok hk1
    go_wp2_with (first | (go_at_call 30; (with_reducible refine (ki _ (HS.out.up (by repeat (first | (with_reducible exact Ext.refl _) | (with_reducible refine Ext.up ?_ _) | (with_reducible refine Ext.alloc ?_ _) | (with_reducible refine Ext.drew ?_) | (with_reducible refine Ext.setRow ?_ (by first | exact LeS.le | exact LeS.add _ | (simp; done) | (simp; omega)) _) | (with_reducible refine Ext.setCell ?_ (by first | exact LeS.le | exact LeS.add _ | (simp; done) | (simp; omega)) _))))).mono ?_); rintro e w' ⟨rfl, z1, rfl⟩) | (go_at_call 46; refine (ks _ (HS.out.up (by repeat (first | (with_reducible exact Ext.refl _) | (with_reducible refine Ext.up ?_ _) | (with_reducible refine Ext.alloc ?_ _) | (with_reducible refine Ext.drew ?_) | (with_reducible refine Ext.setRow ?_ (by first | exact LeS.le | exact LeS.add _ | (simp; done) | (simp; omega)) _) | (with_reducible refine Ext.setCell ?_ (by first | exact LeS.le | exact LeS.add _ | (simp; done) | (simp; omega)) _))))).mono ?_; rintro e w' ⟨rfl, z2, rfl⟩))
    (refine wp_region_up (by kernel_rfl) (by kernel_rfl) ?_; (repeat (go_big_quiet_step (first | (go_at_call 30; exact Calls.up (kn _ (HN.out _ (by repeat (first | exact Ext.refl _ | refine Ext.up ?_ _ | refine Ext.alloc ?_ _ | refine Ext.drew ?_ | refine Ext.setRow ?_ (by first | (dsimp only; omega) | exact LeS.le | exact LeS.add _ | (simp; done) | (simp; omega)) _ | refine Ext.setCell ?_ (by first | (dsimp only; omega) | exact LeS.le | exact LeS.add _ | (simp; done) | (simp; omega)) _))))) | (go_at_call 20; exact Calls.up (alive_any _))))); refine wpQuiet_nil ?_; intro _ hw'; obtain ⟨zq, hw''⟩ := hw'; subst hw'')
    go_wp2_with fail
    go_ret
    exact ⟨rfl, (.of (by repeat (first | (with_reducible exact Ext.refl _) | (with_reducible refine Ext.up ?_ _) | (with_reducible refine Ext.alloc ?_ _) | (with_reducible refine Ext.drew ?_) | (with_reducible refine Ext.setRow ?_ (by first | exact LeS.le | exact LeS.add _ | (simp; done) | (simp; omega)) _) | (with_reducible refine Ext.setCell ?_ (by first | exact LeS.le | exact LeS.add _ | (simp; done) | (simp; omega)) _))))⟩
  obtain ⟨hpl, _, _⟩ := Tree.lens hok
  have hkt : 1 ≤ k → (Tree.mk t.base (t.bs.take k) (t.pr.take k)).ok = true := fun h => Tree.take_ok hok h (by omega)
  have kt := fun w h => iTreeValid_any ⟨t.base, t.bs.take k, t.pr.take k⟩ (.slice p0 t.base.length c0) (.slice p1 k c1) (.slice p2 k c2) w h
  have hT : ∀ w', Ext z0.val w' → ST w' (.slice p0 t.base.length c0) (.slice p1 k c1) (.slice p2 k c2) ⟨t.base, t.bs.take k, t.pr.take k⟩ := fun w' hE => ⟨HS.out.base.up hE, (HS.out.bs.up hE).take (by omega), (HS.out.pr.up hE).take (by omega)⟩
  have HT := Lib.hid hT
  have hkc1 : k ≤ c1 := by omega
  have hkc2 : k ≤ c2 := by omega
  have k0 : (0 : Int) ≤ (k : Int) := by omega
  have k1 : (k : Int) ≤ (c1 : Int) := by omega
  have k2 : (k : Int) ≤ (c2 : Int) := by omega
  simp only [hok] at ki ks
  have hk0 : (((k : Int) == 0) = true) ∨ (((k : Int) == 0) = false ∧ 1 ≤ k) := by by_cases h : k = 0 <;> simp [h]; omega
  clear hok hk1 hT hpl
  rcases hk0 with hz | ⟨hz, hz1⟩
  · clear kt hkt
    go_wp2_with (first | (go_at_call 30; (with_reducible refine (ki _ (HS.out.up (by repeat (first | (with_reducible exact Ext.refl _) | (with_reducible refine Ext.up ?_ _) | (with_reducible refine Ext.alloc ?_ _) | (with_reducible refine Ext.drew ?_) | (with_reducible refine Ext.setRow ?_ (by first | exact LeS.le | exact LeS.add _ | (simp; done) | (simp; omega)) _) | (with_reducible refine Ext.setCell ?_ (by first | exact LeS.le | exact LeS.add _ | (simp; done) | (simp; omega)) _))))).mono ?_); rintro e w' ⟨rfl, z1, rfl⟩) | (go_at_call 46; refine (ks _ (HS.out.up (by repeat (first | (with_reducible exact Ext.refl _) | (with_reducible refine Ext.up ?_ _) | (with_reducible refine Ext.alloc ?_ _) | (with_reducible refine Ext.drew ?_) | (with_reducible refine Ext.setRow ?_ (by first | exact LeS.le | exact LeS.add _ | (simp; done) | (simp; omega)) _) | (with_reducible refine Ext.setCell ?_ (by first | exact LeS.le | exact LeS.add _ | (simp; done) | (simp; omega)) _))))).mono ?_; rintro e w' ⟨rfl, z2, rfl⟩))
    (refine wp_region_up (by kernel_rfl) (by kernel_rfl) ?_; (repeat (go_big_quiet_step (first | (go_at_call 30; exact Calls.up (kn _ (HN.out _ (by repeat (first | exact Ext.refl _ | refine Ext.up ?_ _ | refine Ext.alloc ?_ _ | refine Ext.drew ?_ | refine Ext.setRow ?_ (by first | (dsimp only; omega) | exact LeS.le | exact LeS.add _ | (simp; done) | (simp; omega)) _ | refine Ext.setCell ?_ (by first | (dsimp only; omega) | exact LeS.le | exact LeS.add _ | (simp; done) | (simp; omega)) _))))) | (go_at_call 20; exact Calls.up (alive_any _))))); refine wpQuiet_nil ?_; intro _ hw'; obtain ⟨zq, hw''⟩ := hw'; subst hw'')
    go_wp2_with fail
    go_ret
    exact ⟨rfl, (.of (by repeat (first | (with_reducible exact Ext.refl _) | (with_reducible refine Ext.up ?_ _) | (with_reducible refine Ext.alloc ?_ _) | (with_reducible refine Ext.drew ?_) | (with_reducible refine Ext.setRow ?_ (by first | exact LeS.le | exact LeS.add _ | (simp; done) | (simp; omega)) _) | (with_reducible refine Ext.setCell ?_ (by first | exact LeS.le | exact LeS.add _ | (simp; done) | (simp; omega)) _))))⟩
  · simp only [hkt hz1] at kt
    clear hkt
    go_wp2_with (first | (go_at_call 30; (with_reducible refine (ki _ (HS.out.up (by repeat (first | (with_reducible exact Ext.refl _) | (with_reducible refine Ext.up ?_ _) | (with_reducible refine Ext.alloc ?_ _) | (with_reducible refine Ext.drew ?_) | (with_reducible refine Ext.setRow ?_ (by first | exact LeS.le | exact LeS.add _ | (simp; done) | (simp; omega)) _) | (with_reducible refine Ext.setCell ?_ (by first | exact LeS.le | exact LeS.add _ | (simp; done) | (simp; omega)) _))))).mono ?_); rintro e w' ⟨rfl, z1, rfl⟩) | (go_at_call 46; refine (ks _ (HS.out.up (by repeat (first | (with_reducible exact Ext.refl _) | (with_reducible refine Ext.up ?_ _) | (with_reducible refine Ext.alloc ?_ _) | (with_reducible refine Ext.drew ?_) | (with_reducible refine Ext.setRow ?_ (by first | exact LeS.le | exact LeS.add _ | (simp; done) | (simp; omega)) _) | (with_reducible refine Ext.setCell ?_ (by first | exact LeS.le | exact LeS.add _ | (simp; done) | (simp; omega)) _))))).mono ?_; rintro e w' ⟨rfl, z2, rfl⟩))
    (refine wp_region_up (by kernel_rfl) (by kernel_rfl) ?_; (repeat (go_big_quiet_step (first | (go_at_call 30; with_reducible exact Calls.up (kt _ (HT.out _ (by repeat (first | (with_reducible exact Ext.refl _) | (with_reducible refine Ext.up ?_ _) | (with_reducible refine Ext.alloc ?_ _) | (with_reducible refine Ext.drew ?_) | (with_reducible refine Ext.setRow ?_ (by first | exact LeS.le | exact LeS.add _ | (simp; done) | (simp; omega)) _) | (with_reducible refine Ext.setCell ?_ (by first | exact LeS.le | exact LeS.add _ | (simp; done) | (simp; omega)) _)))))) | (go_at_call 30; with_reducible exact Calls.up (kn _ (HN.out _ (by repeat (first | (with_reducible exact Ext.refl _) | (with_reducible refine Ext.up ?_ _) | (with_reducible refine Ext.alloc ?_ _) | (with_reducible refine Ext.drew ?_) | (with_reducible refine Ext.setRow ?_ (by first | exact LeS.le | exact LeS.add _ | (simp; done) | (simp; omega)) _) | (with_reducible refine Ext.setCell ?_ (by first | exact LeS.le | exact LeS.add _ | (simp; done) | (simp; omega)) _)))))) | (go_at_call 20; exact Calls.up (alive_any _))))); refine wpQuiet_nil ?_; intro _ hw'; obtain ⟨zq, hw''⟩ := hw'; subst hw'')
    go_wp2_with fail
    go_ret
    exact ⟨rfl, (.of (by repeat (first | (with_reducible exact Ext.refl _) | (with_reducible refine Ext.up ?_ _) | (with_reducible refine Ext.alloc ?_ _) | (with_reducible refine Ext.drew ?_) | (with_reducible refine Ext.setRow ?_ (by first | exact LeS.le | exact LeS.add _ | (simp; done) | (simp; omega)) _) | (with_reducible refine Ext.setCell ?_ (by first | exact LeS.le | exact LeS.add _ | (simp; done) | (simp; omega)) _))))⟩
end Go.Proofs.Ytphkimbhjfjjkaa
