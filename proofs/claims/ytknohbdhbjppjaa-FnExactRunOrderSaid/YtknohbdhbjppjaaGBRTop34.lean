/- The law FnExactRunOrder's walk (printed by wip/mkrol.py). -/
import Derived.Test.YtknohbdhbjppjaaGBRTop31
import Derived.Test.YtknohbdhbjppjaaGBRTop32
import Derived.Test.YtknohbdhbjppjaaGBRTop33
import Derived.Test.YtknohbdhbjppjaaGBRTop02
set_option linter.unusedSimpArgs false
set_option linter.unusedVariables false
namespace Go.Proofs.Ytknohbdhbjppjaa
open Go Go.RowKit Go.Proofs

theorem roS_le (s : List Ent) (l : List Actn) (o : List Int) : (roS s l o).length ≤ 32 := by unfold roS; split; exact storeOf_le _; simp
theorem roEs_small (s : List Ent) (l : List Actn) (o : List Int) : (roEs s l o).length ≤ 10 ∧ ∀ x ∈ roEs s l o, x.r.length ≤ 1000 ∧ x.w.length ≤ 1000 := by
  unfold roEs
  split
  · rename_i h
    simp only [roOk, Bool.and_eq_true] at h
    refine ⟨?_, fun x hx => ?_⟩
    · unfold roE; rw [effZ_len, List.length_replicate]; exact actsOk_len (ordOk_parts h.2).1
    · obtain ⟨p, hp⟩ := List.getElem?_of_mem hx
      rcases effZ_mem _ _ hp with h1 | ⟨i, q, h1, _⟩
      · rw [List.getElem?_replicate] at h1
        split at h1
        · cases h1; exact ⟨by decide, by decide⟩
        · cases h1
      · rw [List.getElem?_zip_eq_some] at h1
        exact runAll_small _ _ x (List.mem_of_getElem? h1.2)
  · simp
theorem effW_le : ∀ (ts : List TE), (∀ x ∈ ts, x.r.length ≤ 1000 ∧ x.w.length ≤ 1000) → effW ts ≤ 4001 * ts.length
  | [], _ => by simp [effW]
  | x :: ts, h => by
    have h1 := effW_le ts fun y hy => h y (by simp [hy])
    have h2 := h x (by simp)
    simp only [effW, List.map_cons, List.sum_cons, List.length_cons] at *
    omega
theorem acc_small {es : List Eff} (h : es.length ≤ 10 ∧ ∀ x ∈ es, x.r.length ≤ 1000 ∧ x.w.length ≤ 1000) {acc : List TE} (hm : acc.map TE.core = es) : acc.length ≤ 10 ∧ effW acc ≤ 40010 := by
  subst hm
  rw [List.length_map] at h
  have h1 := effW_le acc fun x hx => h.2 x.core (List.mem_map.2 ⟨x, hx, rfl⟩)
  exact ⟨h.1, by omega⟩
theorem OE.keptLo {eT eE lo : Nat} {w w' : World} {v : Value} {ts : List TE} {row : Option Nat} (h : OE eT eE lo w v ts) (hg : w.grownBy w' row) (hr : ∀ k, row = some k → k < lo) : OE eT eE lo w' v ts := by
  have ap : ∀ {α : Type} {enc : α → List Value} {e sz : Nat} {u : Value} {l : List α}, Own enc e sz lo w u l → u.ownBlock = none ∨ u.ownBlock ≠ row := by
    intro α enc e sz u l ho
    cases hu : u.ownBlock with
    | none => exact .inl rfl
    | some k =>
      right; intro e'
      have h1 := (World.ownsRow.lt ho k hu).1
      have h2 := hr k e'.symm
      omega
  exact ⟨Own.kept h.1 hg (ap h.1), fun x hx => ⟨⟨Own.kept (h.2 x hx).1.1 hg (ap (h.2 x hx).1.1), (h.2 x hx).1.2⟩, ⟨Own.kept (h.2 x hx).2.1 hg (ap (h.2 x hx).2.1), (h.2 x hx).2.2⟩⟩⟩
theorem OE.keepA {eT eE lo : Nat} {w w' : World} {v u : Value} {ts : List TE} (h : OE eT eE lo w v ts) (hg : w.grownBy w' u.ownBlock) (ha : Apart v u) (hx : ∀ x ∈ ts, Apart x.vr u ∧ Apart x.vw u) : OE eT eE lo w' v ts :=
  ⟨Own.keep h.1 hg ha, fun x hm => ⟨⟨Own.keep (h.2 x hm).1.1 hg (hx x hm).1, (h.2 x hm).1.2⟩, ⟨Own.keep (h.2 x hm).2.1 hg (hx x hm).2, (h.2 x hm).2.2⟩⟩⟩
theorem OE.mb_lo {eT eE lo : Nat} {w : World} {v : Value} {ts : List TE} (h : OE eT eE lo w v ts) {b : Nat} (hb : MB v ts b) : lo ≤ b := by
  rcases hb with hb | ⟨x, hx, hb | hb⟩
  · exact (World.ownsRow.lt h.1 b hb).1
  · exact (World.ownsRow.lt (h.2 x hx).1.1 b hb).1
  · exact (World.ownsRow.lt (h.2 x hx).2.1 b hb).1
theorem MB.not {v u : Value} {ts : List TE} (ha : Apart v u) (hx : ∀ x ∈ ts, Apart x.vr u ∧ Apart x.vw u) {k : Nat} (hk : u.ownBlock = some k) : ¬ MB v ts k := by
  have no : ∀ {a : Value}, Apart a u → a.ownBlock ≠ some k := by
    intro a h e
    rcases h with h | h
    · rw [h] at e; cases e
    · rw [hk] at h; exact h e
  rintro (hb | ⟨x, hm, hb | hb⟩)
  · exact no ha hb
  · exact no (hx x hm).1 hb
  · exact no (hx x hm).2 hb
set_option maxRecDepth 100000 in
set_option maxHeartbeats 4000000 in
theorem FnExactRunOrder_any (s : List Ent) (v_s : Value) (l : List Actn) (v_l : Value) (o : List Int) (v_o : Value) (w : World) (h_s : SL (RF Ent.enc) 2 w v_s s) (h_l : SL (RF Actn.enc) 4 w v_l l) (h_o : SL (RF encI) 1 w v_o o) :
    Calls Try.prog 6 #[v_s, v_l, v_o] w fun e w' => e = .returned (.bool true) ∧ Up w w' := by
  have H_s := Lib.hid h_s; clear h_s
  have H_l := Lib.hid h_l; clear h_l
  have H_o := Lib.hid h_o; clear h_o
  obtain ⟨p_o, cap_o, hv_o, hl_o, _⟩ := H_o.out.open; subst hv_o
  by_cases hb_o : 1048576 < o.length
  · go_enter Try.func6, Try.ntmps6
    go_wp2_with fail
    go_ret
    exact ⟨rfl, (.of (by repeat (first | exact Ext.refl _ | refine Ext.up ?_ _ | refine Ext.alloc ?_ _ | refine Ext.drew ?_ | refine Ext.setRow ?_ (by first | (dsimp only; omega) | exact LeS.le | exact LeS.add _ | (simp; done) | (simp; omega)) _ | refine Ext.setCell ?_ (by first | (dsimp only; omega) | exact LeS.le | exact LeS.add _ | (simp; done) | (simp; omega)) _)))⟩
  have hn_o : o.length ≤ 1048576 := by omega
  clear hb_o
  by_cases hz1 : szOf 1048576 s.length < 0
  · go_enter Try.func6, Try.ntmps6
    go_wp2_with fail
    refine (szEntryS_any s _ 1048576 _ H_s.out (by omega) (by omega)).mono ?_; rintro e w' ⟨rfl, rfl⟩
    go_wp2_with fail
    go_ret
    exact ⟨rfl, (.of (by repeat (first | exact Ext.refl _ | refine Ext.up ?_ _ | refine Ext.alloc ?_ _ | refine Ext.drew ?_ | refine Ext.setRow ?_ (by first | (dsimp only; omega) | exact LeS.le | exact LeS.add _ | (simp; done) | (simp; omega)) _ | refine Ext.setCell ?_ (by first | (dsimp only; omega) | exact LeS.le | exact LeS.add _ | (simp; done) | (simp; omega)) _)))⟩
  have hn_s := szOf_le hz1
  have hq1 := szOf_eq hz1
  generalize hg1 : szOf 1048576 s.length = c1 at hz1 hq1
  have Hg1 := Lib.hid hg1; clear hg1
  have hc1 : 0 ≤ c1 ∧ c1 ≤ 1048576 := by omega
  obtain ⟨hc1a, hc1b⟩ := hc1
  have hm_s : s.length ≤ 1048576 := by omega
  clear hn_s hq1
  by_cases hz2 : szOf c1 l.length < 0
  · go_enter Try.func6, Try.ntmps6
    go_wp2_with fail
    refine (szEntryS_any s _ 1048576 _ H_s.out (by omega) (by omega)).mono ?_; rintro e w' ⟨rfl, rfl⟩
    rw [Hg1.out]
    go_wp2_with fail
    refine (szActionS_any l _ c1 _ H_l.out (by omega) (by omega)).mono ?_; rintro e w' ⟨rfl, rfl⟩
    go_wp2_with fail
    go_ret
    exact ⟨rfl, (.of (by repeat (first | exact Ext.refl _ | refine Ext.up ?_ _ | refine Ext.alloc ?_ _ | refine Ext.drew ?_ | refine Ext.setRow ?_ (by first | (dsimp only; omega) | exact LeS.le | exact LeS.add _ | (simp; done) | (simp; omega)) _ | refine Ext.setCell ?_ (by first | (dsimp only; omega) | exact LeS.le | exact LeS.add _ | (simp; done) | (simp; omega)) _)))⟩
  have hn_l := szOf_le hz2
  have hq2 := szOf_eq hz2
  generalize hg2 : szOf c1 l.length = c2 at hz2 hq2
  have Hg2 := Lib.hid hg2; clear hg2
  have hc2 : 0 ≤ c2 ∧ c2 ≤ 1048576 := by omega
  obtain ⟨hc2a, hc2b⟩ := hc2
  have hm_l : l.length ≤ 1048576 := by omega
  clear hn_l hq2
  have hm_o := hn_o; clear hn_o
  have hd0 := roS_le s l o
  have hsm := Lib.hid (roEs_small s l o)
  generalize hD1 : roEs s l o = D1 at hsm
  have HD1 := Lib.hid hD1; clear hD1
  generalize hD0 : roS s l o = D0 at hd0
  have HD0 := Lib.hid hD0; clear hD0
  go_enter Try.func6, Try.ntmps6
  go_wp2_with fail
  refine (szEntryS_any s _ 1048576 _ H_s.out (by omega) (by omega)).mono ?_; rintro e w' ⟨rfl, rfl⟩
  rw [Hg1.out]
  go_wp2_with fail
  refine (szActionS_any l _ c1 _ H_l.out (by omega) (by omega)).mono ?_; rintro e w' ⟨rfl, rfl⟩
  rw [Hg2.out]
  go_wp2_with fail
  refine (toEntryS_any s _ _ (H_s.out.up (by repeat (first | exact Ext.refl _ | refine Ext.up ?_ _ | refine Ext.alloc ?_ _ | refine Ext.drew ?_ | refine Ext.setRow ?_ (by first | (dsimp only; omega) | exact LeS.le | exact LeS.add _ | (simp; done) | (simp; omega)) _ | refine Ext.setCell ?_ (by first | (dsimp only; omega) | exact LeS.le | exact LeS.add _ | (simp; done) | (simp; omega)) _))) hm_s).mono ?_; rintro e w' ⟨y1, rfl, ⟨z1, rfl⟩, o1⟩
  have O1 := Lib.hid o1; clear o1
  go_wp2_with fail
  refine (toActionS_any l _ _ (H_l.out.up (by repeat (first | exact Ext.refl _ | refine Ext.up ?_ _ | refine Ext.alloc ?_ _ | refine Ext.drew ?_ | refine Ext.setRow ?_ (by first | (dsimp only; omega) | exact LeS.le | exact LeS.add _ | (simp; done) | (simp; omega)) _ | refine Ext.setCell ?_ (by first | (dsimp only; omega) | exact LeS.le | exact LeS.add _ | (simp; done) | (simp; omega)) _))) hm_l).mono ?_; rintro e w' ⟨y2, rfl, ⟨z2, rfl⟩, o2⟩
  have O2 := Lib.hid o2; clear o2
  go_wp2_with fail
  refine (toIntS_any o _ _ (H_o.out.up (by repeat (first | exact Ext.refl _ | refine Ext.up ?_ _ | refine Ext.alloc ?_ _ | refine Ext.drew ?_ | refine Ext.setRow ?_ (by first | (dsimp only; omega) | exact LeS.le | exact LeS.add _ | (simp; done) | (simp; omega)) _ | refine Ext.setCell ?_ (by first | (dsimp only; omega) | exact LeS.le | exact LeS.add _ | (simp; done) | (simp; omega)) _))) hm_o).mono ?_; rintro e w' ⟨y3, rfl, ⟨z3, rfl⟩, o3⟩
  have O3 := Lib.hid o3; clear o3
  go_wp2_with fail
  refine (sRunOrder_any s l o _ _ _  _ ((O1.out.up (by repeat (first | exact Ext.refl _ | refine Ext.up ?_ _ | refine Ext.alloc ?_ _ | refine Ext.drew ?_ | refine Ext.setRow ?_ (by first | (dsimp only; omega) | exact LeS.le | exact LeS.add _ | (simp; done) | (simp; omega)) _ | refine Ext.setCell ?_ (by first | (dsimp only; omega) | exact LeS.le | exact LeS.add _ | (simp; done) | (simp; omega)) _))).sl Ent.enc_length) ((O2.out.up (by repeat (first | exact Ext.refl _ | refine Ext.up ?_ _ | refine Ext.alloc ?_ _ | refine Ext.drew ?_ | refine Ext.setRow ?_ (by first | (dsimp only; omega) | exact LeS.le | exact LeS.add _ | (simp; done) | (simp; omega)) _ | refine Ext.setCell ?_ (by first | (dsimp only; omega) | exact LeS.le | exact LeS.add _ | (simp; done) | (simp; omega)) _))).sl Actn.enc_length) ((O3.out.up (by repeat (first | exact Ext.refl _ | refine Ext.up ?_ _ | refine Ext.alloc ?_ _ | refine Ext.drew ?_ | refine Ext.setRow ?_ (by first | (dsimp only; omega) | exact LeS.le | exact LeS.add _ | (simp; done) | (simp; omega)) _ | refine Ext.setCell ?_ (by first | (dsimp only; omega) | exact LeS.le | exact LeS.add _ | (simp; done) | (simp; omega)) _))).sl encI_length)).mono ?_; rintro e w' ⟨y4, yW, rfl, ⟨z4, rfl⟩, o4, sW⟩
  rw [HD1.out] at sW
  have SW := Lib.hid sW; clear sW
  (try rw [HD0.out] at o4)
  have O4 := Lib.hid o4; clear o4
  go_wp2_with fail
  refine (toEntryS_any s _ _ (H_s.out.up (by repeat (first | exact Ext.refl _ | refine Ext.up ?_ _ | refine Ext.alloc ?_ _ | refine Ext.drew ?_ | refine Ext.setRow ?_ (by first | (dsimp only; omega) | exact LeS.le | exact LeS.add _ | (simp; done) | (simp; omega)) _ | refine Ext.setCell ?_ (by first | (dsimp only; omega) | exact LeS.le | exact LeS.add _ | (simp; done) | (simp; omega)) _))) hm_s).mono ?_; rintro e w' ⟨y5, rfl, ⟨z5, rfl⟩, o5⟩
  have O5 := Lib.hid o5; clear o5
  go_wp2_with fail
  refine (toActionS_any l _ _ (H_l.out.up (by repeat (first | exact Ext.refl _ | refine Ext.up ?_ _ | refine Ext.alloc ?_ _ | refine Ext.drew ?_ | refine Ext.setRow ?_ (by first | (dsimp only; omega) | exact LeS.le | exact LeS.add _ | (simp; done) | (simp; omega)) _ | refine Ext.setCell ?_ (by first | (dsimp only; omega) | exact LeS.le | exact LeS.add _ | (simp; done) | (simp; omega)) _))) hm_l).mono ?_; rintro e w' ⟨y6, rfl, ⟨z6, rfl⟩, o6⟩
  have O6 := Lib.hid o6; clear o6
  go_wp2_with fail
  refine (toIntS_any o _ _ (H_o.out.up (by repeat (first | exact Ext.refl _ | refine Ext.up ?_ _ | refine Ext.alloc ?_ _ | refine Ext.drew ?_ | refine Ext.setRow ?_ (by first | (dsimp only; omega) | exact LeS.le | exact LeS.add _ | (simp; done) | (simp; omega)) _ | refine Ext.setCell ?_ (by first | (dsimp only; omega) | exact LeS.le | exact LeS.add _ | (simp; done) | (simp; omega)) _))) hm_o).mono ?_; rintro e w' ⟨y7, rfl, ⟨z7, rfl⟩, o7⟩
  have O7 := Lib.hid o7; clear o7
  go_wp2_with fail
  refine (iRunOrder_any s l o _ _ _  _ ((O5.out.up (by repeat (first | exact Ext.refl _ | refine Ext.up ?_ _ | refine Ext.alloc ?_ _ | refine Ext.drew ?_ | refine Ext.setRow ?_ (by first | (dsimp only; omega) | exact LeS.le | exact LeS.add _ | (simp; done) | (simp; omega)) _ | refine Ext.setCell ?_ (by first | (dsimp only; omega) | exact LeS.le | exact LeS.add _ | (simp; done) | (simp; omega)) _))).sl Ent.enc_length) ((O6.out.up (by repeat (first | exact Ext.refl _ | refine Ext.up ?_ _ | refine Ext.alloc ?_ _ | refine Ext.drew ?_ | refine Ext.setRow ?_ (by first | (dsimp only; omega) | exact LeS.le | exact LeS.add _ | (simp; done) | (simp; omega)) _ | refine Ext.setCell ?_ (by first | (dsimp only; omega) | exact LeS.le | exact LeS.add _ | (simp; done) | (simp; omega)) _))).sl Actn.enc_length) ((O7.out.up (by repeat (first | exact Ext.refl _ | refine Ext.up ?_ _ | refine Ext.alloc ?_ _ | refine Ext.drew ?_ | refine Ext.setRow ?_ (by first | (dsimp only; omega) | exact LeS.le | exact LeS.add _ | (simp; done) | (simp; omega)) _ | refine Ext.setCell ?_ (by first | (dsimp only; omega) | exact LeS.le | exact LeS.add _ | (simp; done) | (simp; omega)) _))).sl encI_length)).mono ?_; rintro e w' ⟨y8, yG, acc, rfl, ⟨z8, rfl⟩, o8, oeG, hmG, hpG, haG, hxG⟩
  rw [HD1.out] at hmG
  obtain ⟨hel, hew⟩ := acc_small hsm.out hmG
  have sG := oeG.se
  rw [hmG] at sG
  have SG := Lib.hid sG; have OEG := Lib.hid oeG; have HPG := Lib.hid hpG; have HAG := Lib.hid haG; have HXG := Lib.hid hxG
  have HmG := Lib.hid hmG
  clear sG oeG hpG haG hxG hmG
  have hM := mkM_eq acc (1 + 2 * (D0.length : Int))
  have hM0 : 0 ≤ mkM (1 + 2 * (D0.length : Int)) acc := by omega
  have hM1 : ¬ mkM (1 + 2 * (D0.length : Int)) acc < 0 := by omega
  clear hM
  (try rw [HD0.out] at o8)
  have O8 := Lib.hid o8; clear o8
  go_wp2_with fail
  refine (eqEntryS_same D0 _ _ _ ((O8.out.up (by repeat (first | exact Ext.refl _ | refine Ext.up ?_ _ | refine Ext.alloc ?_ _ | refine Ext.drew ?_ | refine Ext.setRow ?_ (by first | (dsimp only; omega) | exact LeS.le | exact LeS.add _ | (simp; done) | (simp; omega)) _ | refine Ext.setCell ?_ (by first | (dsimp only; omega) | exact LeS.le | exact LeS.add _ | (simp; done) | (simp; omega)) _))).sl Ent.enc_length) ((O4.out.up (by repeat (first | exact Ext.refl _ | refine Ext.up ?_ _ | refine Ext.alloc ?_ _ | refine Ext.drew ?_ | refine Ext.setRow ?_ (by first | (dsimp only; omega) | exact LeS.le | exact LeS.add _ | (simp; done) | (simp; omega)) _ | refine Ext.setCell ?_ (by first | (dsimp only; omega) | exact LeS.le | exact LeS.add _ | (simp; done) | (simp; omega)) _))).sl Ent.enc_length)).mono ?_; rintro e w' ⟨rfl, ⟨z9, rfl⟩⟩
  go_wp2_with fail
  refine (eqEffectS_same D1 _ _ _ (SG.out.up (by repeat (first | exact Ext.refl _ | refine Ext.up ?_ _ | refine Ext.alloc ?_ _ | refine Ext.drew ?_ | refine Ext.setRow ?_ (by first | (dsimp only; omega) | exact LeS.le | exact LeS.add _ | (simp; done) | (simp; omega)) _ | refine Ext.setCell ?_ (by first | (dsimp only; omega) | exact LeS.le | exact LeS.add _ | (simp; done) | (simp; omega)) _))) (SW.out.up (by repeat (first | exact Ext.refl _ | refine Ext.up ?_ _ | refine Ext.alloc ?_ _ | refine Ext.drew ?_ | refine Ext.setRow ?_ (by first | (dsimp only; omega) | exact LeS.le | exact LeS.add _ | (simp; done) | (simp; omega)) _ | refine Ext.setCell ?_ (by first | (dsimp only; omega) | exact LeS.le | exact LeS.add _ | (simp; done) | (simp; omega)) _)))).mono ?_; rintro e w' ⟨rfl, ⟨zq1, rfl⟩⟩
  go_wp2_with fail
  refine (toEntryS_any s _ _ (H_s.out.up (by repeat (first | exact Ext.refl _ | refine Ext.up ?_ _ | refine Ext.alloc ?_ _ | refine Ext.drew ?_ | refine Ext.setRow ?_ (by first | (dsimp only; omega) | exact LeS.le | exact LeS.add _ | (simp; done) | (simp; omega)) _ | refine Ext.setCell ?_ (by first | (dsimp only; omega) | exact LeS.le | exact LeS.add _ | (simp; done) | (simp; omega)) _))) hm_s).mono ?_; rintro e w' ⟨y10, rfl, ⟨z10, rfl⟩, o10⟩
  have O10 := Lib.hid o10; clear o10
  go_wp2_with fail
  refine (eqEntryS_same s _ _ _ ((O5.out.up (by repeat (first | exact Ext.refl _ | refine Ext.up ?_ _ | refine Ext.alloc ?_ _ | refine Ext.drew ?_ | refine Ext.setRow ?_ (by first | (dsimp only; omega) | exact LeS.le | exact LeS.add _ | (simp; done) | (simp; omega)) _ | refine Ext.setCell ?_ (by first | (dsimp only; omega) | exact LeS.le | exact LeS.add _ | (simp; done) | (simp; omega)) _))).sl Ent.enc_length) ((O10.out.up (by repeat (first | exact Ext.refl _ | refine Ext.up ?_ _ | refine Ext.alloc ?_ _ | refine Ext.drew ?_ | refine Ext.setRow ?_ (by first | (dsimp only; omega) | exact LeS.le | exact LeS.add _ | (simp; done) | (simp; omega)) _ | refine Ext.setCell ?_ (by first | (dsimp only; omega) | exact LeS.le | exact LeS.add _ | (simp; done) | (simp; omega)) _))).sl Ent.enc_length)).mono ?_; rintro e w' ⟨rfl, ⟨z11, rfl⟩⟩
  go_wp2_with fail
  refine (toActionS_any l _ _ (H_l.out.up (by repeat (first | exact Ext.refl _ | refine Ext.up ?_ _ | refine Ext.alloc ?_ _ | refine Ext.drew ?_ | refine Ext.setRow ?_ (by first | (dsimp only; omega) | exact LeS.le | exact LeS.add _ | (simp; done) | (simp; omega)) _ | refine Ext.setCell ?_ (by first | (dsimp only; omega) | exact LeS.le | exact LeS.add _ | (simp; done) | (simp; omega)) _))) hm_l).mono ?_; rintro e w' ⟨y12, rfl, ⟨z12, rfl⟩, o12⟩
  have O12 := Lib.hid o12; clear o12
  go_wp2_with fail
  refine (eqActionS_same l _ _ _ ((O6.out.up (by repeat (first | exact Ext.refl _ | refine Ext.up ?_ _ | refine Ext.alloc ?_ _ | refine Ext.drew ?_ | refine Ext.setRow ?_ (by first | (dsimp only; omega) | exact LeS.le | exact LeS.add _ | (simp; done) | (simp; omega)) _ | refine Ext.setCell ?_ (by first | (dsimp only; omega) | exact LeS.le | exact LeS.add _ | (simp; done) | (simp; omega)) _))).sl Actn.enc_length) ((O12.out.up (by repeat (first | exact Ext.refl _ | refine Ext.up ?_ _ | refine Ext.alloc ?_ _ | refine Ext.drew ?_ | refine Ext.setRow ?_ (by first | (dsimp only; omega) | exact LeS.le | exact LeS.add _ | (simp; done) | (simp; omega)) _ | refine Ext.setCell ?_ (by first | (dsimp only; omega) | exact LeS.le | exact LeS.add _ | (simp; done) | (simp; omega)) _))).sl Actn.enc_length)).mono ?_; rintro e w' ⟨rfl, ⟨z13, rfl⟩⟩
  go_wp2_with fail
  refine (toIntS_any o _ _ (H_o.out.up (by repeat (first | exact Ext.refl _ | refine Ext.up ?_ _ | refine Ext.alloc ?_ _ | refine Ext.drew ?_ | refine Ext.setRow ?_ (by first | (dsimp only; omega) | exact LeS.le | exact LeS.add _ | (simp; done) | (simp; omega)) _ | refine Ext.setCell ?_ (by first | (dsimp only; omega) | exact LeS.le | exact LeS.add _ | (simp; done) | (simp; omega)) _))) hm_o).mono ?_; rintro e w' ⟨y14, rfl, ⟨z14, rfl⟩, o14⟩
  have O14 := Lib.hid o14; clear o14
  go_wp2_with fail
  refine (eqIntS_same o _ _ _ ((O7.out.up (by repeat (first | exact Ext.refl _ | refine Ext.up ?_ _ | refine Ext.alloc ?_ _ | refine Ext.drew ?_ | refine Ext.setRow ?_ (by first | (dsimp only; omega) | exact LeS.le | exact LeS.add _ | (simp; done) | (simp; omega)) _ | refine Ext.setCell ?_ (by first | (dsimp only; omega) | exact LeS.le | exact LeS.add _ | (simp; done) | (simp; omega)) _))).sl encI_length) ((O14.out.up (by repeat (first | exact Ext.refl _ | refine Ext.up ?_ _ | refine Ext.alloc ?_ _ | refine Ext.drew ?_ | refine Ext.setRow ?_ (by first | (dsimp only; omega) | exact LeS.le | exact LeS.add _ | (simp; done) | (simp; omega)) _ | refine Ext.setCell ?_ (by first | (dsimp only; omega) | exact LeS.le | exact LeS.add _ | (simp; done) | (simp; omega)) _))).sl encI_length)).mono ?_; rintro e w' ⟨rfl, ⟨z15, rfl⟩⟩
  go_wp2_with fail
  refine (markEntryS_any _ s _ _ _ (O5.out.up (by repeat (first | exact Ext.refl _ | refine Ext.up ?_ _ | refine Ext.alloc ?_ _ | refine Ext.drew ?_ | refine Ext.setRow ?_ (by first | (dsimp only; omega) | exact LeS.le | exact LeS.add _ | (simp; done) | (simp; omega)) _ | refine Ext.setCell ?_ (by first | (dsimp only; omega) | exact LeS.le | exact LeS.add _ | (simp; done) | (simp; omega)) _))) (by omega) (by omega) (by omega)).mono ?_; rintro e w16 ⟨rfl, hg116, om16⟩
  have E16 : Ext z4.val w16 := Own.ext_grown (O5.out.up (by repeat (first | exact Ext.refl _ | refine Ext.up ?_ _ | refine Ext.alloc ?_ _ | refine Ext.drew ?_ | refine Ext.setRow ?_ (by first | (dsimp only; omega) | exact LeS.le | exact LeS.add _ | (simp; done) | (simp; omega)) _ | refine Ext.setCell ?_ (by first | (dsimp only; omega) | exact LeS.le | exact LeS.add _ | (simp; done) | (simp; omega)) _))) (by repeat (first | exact Ext.refl _ | refine Ext.up ?_ _ | refine Ext.alloc ?_ _ | refine Ext.drew ?_ | refine Ext.setRow ?_ (by first | (dsimp only; omega) | exact LeS.le | exact LeS.add _ | (simp; done) | (simp; omega)) _ | refine Ext.setCell ?_ (by first | (dsimp only; omega) | exact LeS.le | exact LeS.add _ | (simp; done) | (simp; omega)) _)) LeS.le hg116
  have OEG_16 := Lib.hid (OE.keptLo (OEG.out.up (by repeat (first | exact Ext.refl _ | refine Ext.up ?_ _ | refine Ext.alloc ?_ _ | refine Ext.drew ?_ | refine Ext.setRow ?_ (by first | (dsimp only; omega) | exact LeS.le | exact LeS.add _ | (simp; done) | (simp; omega)) _ | refine Ext.setCell ?_ (by first | (dsimp only; omega) | exact LeS.le | exact LeS.add _ | (simp; done) | (simp; omega)) _))) hg116 (fun k hk => Nat.lt_of_lt_of_le (World.ownsRow.lt O5.out k hk).2 LeS.le))
  have O4_16 := Lib.hid (Own.kept (O4.out.up (by repeat (first | exact Ext.refl _ | refine Ext.up ?_ _ | refine Ext.alloc ?_ _ | refine Ext.drew ?_ | refine Ext.setRow ?_ (by first | (dsimp only; omega) | exact LeS.le | exact LeS.add _ | (simp; done) | (simp; omega)) _ | refine Ext.setCell ?_ (by first | (dsimp only; omega) | exact LeS.le | exact LeS.add _ | (simp; done) | (simp; omega)) _))) hg116 ((Own.apart O4.out O5.out LeS.le).symm))
  have O6_16 := Lib.hid (Own.kept (O6.out.up (by repeat (first | exact Ext.refl _ | refine Ext.up ?_ _ | refine Ext.alloc ?_ _ | refine Ext.drew ?_ | refine Ext.setRow ?_ (by first | (dsimp only; omega) | exact LeS.le | exact LeS.add _ | (simp; done) | (simp; omega)) _ | refine Ext.setCell ?_ (by first | (dsimp only; omega) | exact LeS.le | exact LeS.add _ | (simp; done) | (simp; omega)) _))) hg116 (Own.after O6.out O5.out LeS.le))
  have O7_16 := Lib.hid (Own.kept (O7.out.up (by repeat (first | exact Ext.refl _ | refine Ext.up ?_ _ | refine Ext.alloc ?_ _ | refine Ext.drew ?_ | refine Ext.setRow ?_ (by first | (dsimp only; omega) | exact LeS.le | exact LeS.add _ | (simp; done) | (simp; omega)) _ | refine Ext.setCell ?_ (by first | (dsimp only; omega) | exact LeS.le | exact LeS.add _ | (simp; done) | (simp; omega)) _))) hg116 (Own.after O7.out O5.out LeS.le))
  have O8_16 := Lib.hid (Own.kept (O8.out.up (by repeat (first | exact Ext.refl _ | refine Ext.up ?_ _ | refine Ext.alloc ?_ _ | refine Ext.drew ?_ | refine Ext.setRow ?_ (by first | (dsimp only; omega) | exact LeS.le | exact LeS.add _ | (simp; done) | (simp; omega)) _ | refine Ext.setCell ?_ (by first | (dsimp only; omega) | exact LeS.le | exact LeS.add _ | (simp; done) | (simp; omega)) _))) hg116 (Own.after O8.out O5.out LeS.le))
  clear hg116
  obtain ⟨z16, rfl⟩ := Up.of E16
  go_wp2_with fail
  refine (markActionS_any _ l _ _ _ (O6_16.out.up (by repeat (first | exact Ext.refl _ | refine Ext.up ?_ _ | refine Ext.alloc ?_ _ | refine Ext.drew ?_ | refine Ext.setRow ?_ (by first | (dsimp only; omega) | exact LeS.le | exact LeS.add _ | (simp; done) | (simp; omega)) _ | refine Ext.setCell ?_ (by first | (dsimp only; omega) | exact LeS.le | exact LeS.add _ | (simp; done) | (simp; omega)) _))) (by omega) (by omega) (by omega)).mono ?_; rintro e w17 ⟨rfl, hg117, om17⟩
  have E17 : Ext z4.val w17 := Own.ext_grown (O6_16.out.up (by repeat (first | exact Ext.refl _ | refine Ext.up ?_ _ | refine Ext.alloc ?_ _ | refine Ext.drew ?_ | refine Ext.setRow ?_ (by first | (dsimp only; omega) | exact LeS.le | exact LeS.add _ | (simp; done) | (simp; omega)) _ | refine Ext.setCell ?_ (by first | (dsimp only; omega) | exact LeS.le | exact LeS.add _ | (simp; done) | (simp; omega)) _))) (by repeat (first | exact Ext.refl _ | refine Ext.up ?_ _ | refine Ext.alloc ?_ _ | refine Ext.drew ?_ | refine Ext.setRow ?_ (by first | (dsimp only; omega) | exact LeS.le | exact LeS.add _ | (simp; done) | (simp; omega)) _ | refine Ext.setCell ?_ (by first | (dsimp only; omega) | exact LeS.le | exact LeS.add _ | (simp; done) | (simp; omega)) _)) LeS.le hg117
  have OEG_17 := Lib.hid (OE.keptLo (OEG_16.out.up (by repeat (first | exact Ext.refl _ | refine Ext.up ?_ _ | refine Ext.alloc ?_ _ | refine Ext.drew ?_ | refine Ext.setRow ?_ (by first | (dsimp only; omega) | exact LeS.le | exact LeS.add _ | (simp; done) | (simp; omega)) _ | refine Ext.setCell ?_ (by first | (dsimp only; omega) | exact LeS.le | exact LeS.add _ | (simp; done) | (simp; omega)) _))) hg117 (fun k hk => Nat.lt_of_lt_of_le (World.ownsRow.lt O6.out k hk).2 LeS.le))
  have O4_17 := Lib.hid (Own.kept (O4_16.out.up (by repeat (first | exact Ext.refl _ | refine Ext.up ?_ _ | refine Ext.alloc ?_ _ | refine Ext.drew ?_ | refine Ext.setRow ?_ (by first | (dsimp only; omega) | exact LeS.le | exact LeS.add _ | (simp; done) | (simp; omega)) _ | refine Ext.setCell ?_ (by first | (dsimp only; omega) | exact LeS.le | exact LeS.add _ | (simp; done) | (simp; omega)) _))) hg117 ((Own.apart O4.out O6.out LeS.le).symm))
  have O7_17 := Lib.hid (Own.kept (O7_16.out.up (by repeat (first | exact Ext.refl _ | refine Ext.up ?_ _ | refine Ext.alloc ?_ _ | refine Ext.drew ?_ | refine Ext.setRow ?_ (by first | (dsimp only; omega) | exact LeS.le | exact LeS.add _ | (simp; done) | (simp; omega)) _ | refine Ext.setCell ?_ (by first | (dsimp only; omega) | exact LeS.le | exact LeS.add _ | (simp; done) | (simp; omega)) _))) hg117 (Own.after O7.out O6.out LeS.le))
  have O8_17 := Lib.hid (Own.kept (O8_16.out.up (by repeat (first | exact Ext.refl _ | refine Ext.up ?_ _ | refine Ext.alloc ?_ _ | refine Ext.drew ?_ | refine Ext.setRow ?_ (by first | (dsimp only; omega) | exact LeS.le | exact LeS.add _ | (simp; done) | (simp; omega)) _ | refine Ext.setCell ?_ (by first | (dsimp only; omega) | exact LeS.le | exact LeS.add _ | (simp; done) | (simp; omega)) _))) hg117 (Own.after O8.out O6.out LeS.le))
  clear hg117
  obtain ⟨z17, rfl⟩ := Up.of E17
  go_wp2_with fail
  refine (markIntS_any _ o _ _ _ (O7_17.out.up (by repeat (first | exact Ext.refl _ | refine Ext.up ?_ _ | refine Ext.alloc ?_ _ | refine Ext.drew ?_ | refine Ext.setRow ?_ (by first | (dsimp only; omega) | exact LeS.le | exact LeS.add _ | (simp; done) | (simp; omega)) _ | refine Ext.setCell ?_ (by first | (dsimp only; omega) | exact LeS.le | exact LeS.add _ | (simp; done) | (simp; omega)) _))) (by omega) (by omega) (by omega)).mono ?_; rintro e w18 ⟨rfl, hg118, om18⟩
  have E18 : Ext z4.val w18 := Own.ext_grown (O7_17.out.up (by repeat (first | exact Ext.refl _ | refine Ext.up ?_ _ | refine Ext.alloc ?_ _ | refine Ext.drew ?_ | refine Ext.setRow ?_ (by first | (dsimp only; omega) | exact LeS.le | exact LeS.add _ | (simp; done) | (simp; omega)) _ | refine Ext.setCell ?_ (by first | (dsimp only; omega) | exact LeS.le | exact LeS.add _ | (simp; done) | (simp; omega)) _))) (by repeat (first | exact Ext.refl _ | refine Ext.up ?_ _ | refine Ext.alloc ?_ _ | refine Ext.drew ?_ | refine Ext.setRow ?_ (by first | (dsimp only; omega) | exact LeS.le | exact LeS.add _ | (simp; done) | (simp; omega)) _ | refine Ext.setCell ?_ (by first | (dsimp only; omega) | exact LeS.le | exact LeS.add _ | (simp; done) | (simp; omega)) _)) LeS.le hg118
  have OEG_18 := Lib.hid (OE.keptLo (OEG_17.out.up (by repeat (first | exact Ext.refl _ | refine Ext.up ?_ _ | refine Ext.alloc ?_ _ | refine Ext.drew ?_ | refine Ext.setRow ?_ (by first | (dsimp only; omega) | exact LeS.le | exact LeS.add _ | (simp; done) | (simp; omega)) _ | refine Ext.setCell ?_ (by first | (dsimp only; omega) | exact LeS.le | exact LeS.add _ | (simp; done) | (simp; omega)) _))) hg118 (fun k hk => Nat.lt_of_lt_of_le (World.ownsRow.lt O7.out k hk).2 LeS.le))
  have O4_18 := Lib.hid (Own.kept (O4_17.out.up (by repeat (first | exact Ext.refl _ | refine Ext.up ?_ _ | refine Ext.alloc ?_ _ | refine Ext.drew ?_ | refine Ext.setRow ?_ (by first | (dsimp only; omega) | exact LeS.le | exact LeS.add _ | (simp; done) | (simp; omega)) _ | refine Ext.setCell ?_ (by first | (dsimp only; omega) | exact LeS.le | exact LeS.add _ | (simp; done) | (simp; omega)) _))) hg118 ((Own.apart O4.out O7.out LeS.le).symm))
  have O8_18 := Lib.hid (Own.kept (O8_17.out.up (by repeat (first | exact Ext.refl _ | refine Ext.up ?_ _ | refine Ext.alloc ?_ _ | refine Ext.drew ?_ | refine Ext.setRow ?_ (by first | (dsimp only; omega) | exact LeS.le | exact LeS.add _ | (simp; done) | (simp; omega)) _ | refine Ext.setCell ?_ (by first | (dsimp only; omega) | exact LeS.le | exact LeS.add _ | (simp; done) | (simp; omega)) _))) hg118 (Own.after O8.out O7.out LeS.le))
  clear hg118
  have SGx := Lib.hid (show SE w18 yG D1 from by have := OEG_18.out.se; rw [HmG.out] at this; exact this)
  obtain ⟨z18, rfl⟩ := Up.of E18
  go_wp2_with fail
  refine (eqEntryS_same D0 _ _ _ ((O8_18.out.up (by repeat (first | exact Ext.refl _ | refine Ext.up ?_ _ | refine Ext.alloc ?_ _ | refine Ext.drew ?_ | refine Ext.setRow ?_ (by first | (dsimp only; omega) | exact LeS.le | exact LeS.add _ | (simp; done) | (simp; omega)) _ | refine Ext.setCell ?_ (by first | (dsimp only; omega) | exact LeS.le | exact LeS.add _ | (simp; done) | (simp; omega)) _))).sl Ent.enc_length) ((O4.out.up (by repeat (first | exact Ext.refl _ | refine Ext.up ?_ _ | refine Ext.alloc ?_ _ | refine Ext.drew ?_ | refine Ext.setRow ?_ (by first | (dsimp only; omega) | exact LeS.le | exact LeS.add _ | (simp; done) | (simp; omega)) _ | refine Ext.setCell ?_ (by first | (dsimp only; omega) | exact LeS.le | exact LeS.add _ | (simp; done) | (simp; omega)) _))).sl Ent.enc_length)).mono ?_; rintro e w' ⟨rfl, ⟨z19, rfl⟩⟩
  go_wp2_with fail
  refine (eqEffectS_same D1 _ _ _ (SGx.out.up (by repeat (first | exact Ext.refl _ | refine Ext.up ?_ _ | refine Ext.alloc ?_ _ | refine Ext.drew ?_ | refine Ext.setRow ?_ (by first | (dsimp only; omega) | exact LeS.le | exact LeS.add _ | (simp; done) | (simp; omega)) _ | refine Ext.setCell ?_ (by first | (dsimp only; omega) | exact LeS.le | exact LeS.add _ | (simp; done) | (simp; omega)) _))) (SW.out.up (by repeat (first | exact Ext.refl _ | refine Ext.up ?_ _ | refine Ext.alloc ?_ _ | refine Ext.drew ?_ | refine Ext.setRow ?_ (by first | (dsimp only; omega) | exact LeS.le | exact LeS.add _ | (simp; done) | (simp; omega)) _ | refine Ext.setCell ?_ (by first | (dsimp only; omega) | exact LeS.le | exact LeS.add _ | (simp; done) | (simp; omega)) _)))).mono ?_; rintro e w' ⟨rfl, ⟨zq2, rfl⟩⟩
  go_wp2_with fail
  refine (markEntryS_any _ D0 _ _ _ (O8_18.out.up (by repeat (first | exact Ext.refl _ | refine Ext.up ?_ _ | refine Ext.alloc ?_ _ | refine Ext.drew ?_ | refine Ext.setRow ?_ (by first | (dsimp only; omega) | exact LeS.le | exact LeS.add _ | (simp; done) | (simp; omega)) _ | refine Ext.setCell ?_ (by first | (dsimp only; omega) | exact LeS.le | exact LeS.add _ | (simp; done) | (simp; omega)) _))) (by omega) (by omega) (by omega)).mono ?_; rintro e w20 ⟨rfl, hg120, om20⟩
  have E20 : Ext z4.val w20 := Own.ext_grown (O8_18.out.up (by repeat (first | exact Ext.refl _ | refine Ext.up ?_ _ | refine Ext.alloc ?_ _ | refine Ext.drew ?_ | refine Ext.setRow ?_ (by first | (dsimp only; omega) | exact LeS.le | exact LeS.add _ | (simp; done) | (simp; omega)) _ | refine Ext.setCell ?_ (by first | (dsimp only; omega) | exact LeS.le | exact LeS.add _ | (simp; done) | (simp; omega)) _))) (by repeat (first | exact Ext.refl _ | refine Ext.up ?_ _ | refine Ext.alloc ?_ _ | refine Ext.drew ?_ | refine Ext.setRow ?_ (by first | (dsimp only; omega) | exact LeS.le | exact LeS.add _ | (simp; done) | (simp; omega)) _ | refine Ext.setCell ?_ (by first | (dsimp only; omega) | exact LeS.le | exact LeS.add _ | (simp; done) | (simp; omega)) _)) LeS.le hg120
  have OEG_20 := Lib.hid (OE.keepA (OEG_18.out.up (by repeat (first | exact Ext.refl _ | refine Ext.up ?_ _ | refine Ext.alloc ?_ _ | refine Ext.drew ?_ | refine Ext.setRow ?_ (by first | (dsimp only; omega) | exact LeS.le | exact LeS.add _ | (simp; done) | (simp; omega)) _ | refine Ext.setCell ?_ (by first | (dsimp only; omega) | exact LeS.le | exact LeS.add _ | (simp; done) | (simp; omega)) _))) hg120 HAG.out HXG.out)
  have O4_20 := Lib.hid (Own.kept (O4_18.out.up (by repeat (first | exact Ext.refl _ | refine Ext.up ?_ _ | refine Ext.alloc ?_ _ | refine Ext.drew ?_ | refine Ext.setRow ?_ (by first | (dsimp only; omega) | exact LeS.le | exact LeS.add _ | (simp; done) | (simp; omega)) _ | refine Ext.setCell ?_ (by first | (dsimp only; omega) | exact LeS.le | exact LeS.add _ | (simp; done) | (simp; omega)) _))) hg120 ((Own.apart O4.out O8.out LeS.le).symm))
  have OM20 := Lib.hid om20; clear om20
  clear hg120
  obtain ⟨z20, rfl⟩ := Up.of E20
  go_wp2_with fail
  refine (markEffectS_any _ acc yG _ _ (OEG_20.out.up (by repeat (first | exact Ext.refl _ | refine Ext.up ?_ _ | refine Ext.alloc ?_ _ | refine Ext.drew ?_ | refine Ext.setRow ?_ (by first | (dsimp only; omega) | exact LeS.le | exact LeS.add _ | (simp; done) | (simp; omega)) _ | refine Ext.setCell ?_ (by first | (dsimp only; omega) | exact LeS.le | exact LeS.add _ | (simp; done) | (simp; omega)) _))) HPG.out (by omega) (by omega) (by omega)).mono ?_; rintro e w90 ⟨rfl, hc90, oe90⟩
  have E90 : Ext z4.val w90 := Chg.ext (show Ext z4.val z20.val from (by repeat (first | exact Ext.refl _ | refine Ext.up ?_ _ | refine Ext.alloc ?_ _ | refine Ext.drew ?_ | refine Ext.setRow ?_ (by first | (dsimp only; omega) | exact LeS.le | exact LeS.add _ | (simp; done) | (simp; omega)) _ | refine Ext.setCell ?_ (by first | (dsimp only; omega) | exact LeS.le | exact LeS.add _ | (simp; done) | (simp; omega)) _))) hc90 (fun b hb => Nat.le_trans LeS.le (OE.mb_lo OEG.out hb))
  have OM90 := Lib.hid (Chg.own (OM20.out.up (by repeat (first | exact Ext.refl _ | refine Ext.up ?_ _ | refine Ext.alloc ?_ _ | refine Ext.drew ?_ | refine Ext.setRow ?_ (by first | (dsimp only; omega) | exact LeS.le | exact LeS.add _ | (simp; done) | (simp; omega)) _ | refine Ext.setCell ?_ (by first | (dsimp only; omega) | exact LeS.le | exact LeS.add _ | (simp; done) | (simp; omega)) _))) hc90 (fun k hk => MB.not HAG.out HXG.out hk))
  have SM90 := Lib.hid oe90.sm
  clear hc90 oe90
  obtain ⟨z90, rfl⟩ := Up.of E90
  go_wp2_with fail
  refine (heldEntryS_marks D0.length _ _ _ ((OM90.out.up (by repeat (first | exact Ext.refl _ | refine Ext.up ?_ _ | refine Ext.alloc ?_ _ | refine Ext.drew ?_ | refine Ext.setRow ?_ (by first | (dsimp only; omega) | exact LeS.le | exact LeS.add _ | (simp; done) | (simp; omega)) _ | refine Ext.setCell ?_ (by first | (dsimp only; omega) | exact LeS.le | exact LeS.add _ | (simp; done) | (simp; omega)) _))).sl Ent.enc_length) (by omega) (by omega) (by omega)).mono ?_; rintro e w' ⟨rfl, rfl⟩
  go_wp2_with fail
  refine (heldEffectS_marks acc yG _ _ (SM90.out.up (by repeat (first | exact Ext.refl _ | refine Ext.up ?_ _ | refine Ext.alloc ?_ _ | refine Ext.drew ?_ | refine Ext.setRow ?_ (by first | (dsimp only; omega) | exact LeS.le | exact LeS.add _ | (simp; done) | (simp; omega)) _ | refine Ext.setCell ?_ (by first | (dsimp only; omega) | exact LeS.le | exact LeS.add _ | (simp; done) | (simp; omega)) _))) (by omega) (by omega) (by omega)).mono ?_; rintro e w' ⟨rfl, rfl⟩
  go_wp2_with fail
  refine (toEntryS_any s _ _ (H_s.out.up (by repeat (first | exact Ext.refl _ | refine Ext.up ?_ _ | refine Ext.alloc ?_ _ | refine Ext.drew ?_ | refine Ext.setRow ?_ (by first | (dsimp only; omega) | exact LeS.le | exact LeS.add _ | (simp; done) | (simp; omega)) _ | refine Ext.setCell ?_ (by first | (dsimp only; omega) | exact LeS.le | exact LeS.add _ | (simp; done) | (simp; omega)) _))) hm_s).mono ?_; rintro e w' ⟨y21, rfl, ⟨z21, rfl⟩, o21⟩
  have O21 := Lib.hid o21; clear o21
  go_wp2_with fail
  refine (toActionS_any l _ _ (H_l.out.up (by repeat (first | exact Ext.refl _ | refine Ext.up ?_ _ | refine Ext.alloc ?_ _ | refine Ext.drew ?_ | refine Ext.setRow ?_ (by first | (dsimp only; omega) | exact LeS.le | exact LeS.add _ | (simp; done) | (simp; omega)) _ | refine Ext.setCell ?_ (by first | (dsimp only; omega) | exact LeS.le | exact LeS.add _ | (simp; done) | (simp; omega)) _))) hm_l).mono ?_; rintro e w' ⟨y22, rfl, ⟨z22, rfl⟩, o22⟩
  have O22 := Lib.hid o22; clear o22
  go_wp2_with fail
  refine (toIntS_any o _ _ (H_o.out.up (by repeat (first | exact Ext.refl _ | refine Ext.up ?_ _ | refine Ext.alloc ?_ _ | refine Ext.drew ?_ | refine Ext.setRow ?_ (by first | (dsimp only; omega) | exact LeS.le | exact LeS.add _ | (simp; done) | (simp; omega)) _ | refine Ext.setCell ?_ (by first | (dsimp only; omega) | exact LeS.le | exact LeS.add _ | (simp; done) | (simp; omega)) _))) hm_o).mono ?_; rintro e w' ⟨y23, rfl, ⟨z23, rfl⟩, o23⟩
  have O23 := Lib.hid o23; clear o23
  go_wp2_with fail
  refine (iRunOrder_any s l o _ _ _  _ ((O21.out.up (by repeat (first | exact Ext.refl _ | refine Ext.up ?_ _ | refine Ext.alloc ?_ _ | refine Ext.drew ?_ | refine Ext.setRow ?_ (by first | (dsimp only; omega) | exact LeS.le | exact LeS.add _ | (simp; done) | (simp; omega)) _ | refine Ext.setCell ?_ (by first | (dsimp only; omega) | exact LeS.le | exact LeS.add _ | (simp; done) | (simp; omega)) _))).sl Ent.enc_length) ((O22.out.up (by repeat (first | exact Ext.refl _ | refine Ext.up ?_ _ | refine Ext.alloc ?_ _ | refine Ext.drew ?_ | refine Ext.setRow ?_ (by first | (dsimp only; omega) | exact LeS.le | exact LeS.add _ | (simp; done) | (simp; omega)) _ | refine Ext.setCell ?_ (by first | (dsimp only; omega) | exact LeS.le | exact LeS.add _ | (simp; done) | (simp; omega)) _))).sl Actn.enc_length) ((O23.out.up (by repeat (first | exact Ext.refl _ | refine Ext.up ?_ _ | refine Ext.alloc ?_ _ | refine Ext.drew ?_ | refine Ext.setRow ?_ (by first | (dsimp only; omega) | exact LeS.le | exact LeS.add _ | (simp; done) | (simp; omega)) _ | refine Ext.setCell ?_ (by first | (dsimp only; omega) | exact LeS.le | exact LeS.add _ | (simp; done) | (simp; omega)) _))).sl encI_length)).mono ?_; rintro e w' ⟨y24, yH, accH, rfl, ⟨z24, rfl⟩, o24, oeH, hmH, _, _, _⟩
  rw [HD1.out] at hmH
  have sH := oeH.se
  rw [hmH] at sH
  have SH := Lib.hid sH; clear sH oeH hmH
  (try rw [HD0.out] at o24)
  have O24 := Lib.hid o24; clear o24
  go_wp2_with fail
  refine (eqEntryS_same D0 _ _ _ ((O24.out.up (by repeat (first | exact Ext.refl _ | refine Ext.up ?_ _ | refine Ext.alloc ?_ _ | refine Ext.drew ?_ | refine Ext.setRow ?_ (by first | (dsimp only; omega) | exact LeS.le | exact LeS.add _ | (simp; done) | (simp; omega)) _ | refine Ext.setCell ?_ (by first | (dsimp only; omega) | exact LeS.le | exact LeS.add _ | (simp; done) | (simp; omega)) _))).sl Ent.enc_length) ((O4.out.up (by repeat (first | exact Ext.refl _ | refine Ext.up ?_ _ | refine Ext.alloc ?_ _ | refine Ext.drew ?_ | refine Ext.setRow ?_ (by first | (dsimp only; omega) | exact LeS.le | exact LeS.add _ | (simp; done) | (simp; omega)) _ | refine Ext.setCell ?_ (by first | (dsimp only; omega) | exact LeS.le | exact LeS.add _ | (simp; done) | (simp; omega)) _))).sl Ent.enc_length)).mono ?_; rintro e w' ⟨rfl, ⟨z25, rfl⟩⟩
  go_wp2_with fail
  refine (eqEffectS_same D1 _ _ _ (SH.out.up (by repeat (first | exact Ext.refl _ | refine Ext.up ?_ _ | refine Ext.alloc ?_ _ | refine Ext.drew ?_ | refine Ext.setRow ?_ (by first | (dsimp only; omega) | exact LeS.le | exact LeS.add _ | (simp; done) | (simp; omega)) _ | refine Ext.setCell ?_ (by first | (dsimp only; omega) | exact LeS.le | exact LeS.add _ | (simp; done) | (simp; omega)) _))) (SW.out.up (by repeat (first | exact Ext.refl _ | refine Ext.up ?_ _ | refine Ext.alloc ?_ _ | refine Ext.drew ?_ | refine Ext.setRow ?_ (by first | (dsimp only; omega) | exact LeS.le | exact LeS.add _ | (simp; done) | (simp; omega)) _ | refine Ext.setCell ?_ (by first | (dsimp only; omega) | exact LeS.le | exact LeS.add _ | (simp; done) | (simp; omega)) _)))).mono ?_; rintro e w' ⟨rfl, ⟨zq3, rfl⟩⟩
  go_wp2_with fail
  refine (heldEntryS_marks D0.length _ _ _ ((OM90.out.up (by repeat (first | exact Ext.refl _ | refine Ext.up ?_ _ | refine Ext.alloc ?_ _ | refine Ext.drew ?_ | refine Ext.setRow ?_ (by first | (dsimp only; omega) | exact LeS.le | exact LeS.add _ | (simp; done) | (simp; omega)) _ | refine Ext.setCell ?_ (by first | (dsimp only; omega) | exact LeS.le | exact LeS.add _ | (simp; done) | (simp; omega)) _))).sl Ent.enc_length) (by omega) (by omega) (by omega)).mono ?_; rintro e w' ⟨rfl, rfl⟩
  go_wp2_with fail
  refine (heldEffectS_marks acc yG _ _ (SM90.out.up (by repeat (first | exact Ext.refl _ | refine Ext.up ?_ _ | refine Ext.alloc ?_ _ | refine Ext.drew ?_ | refine Ext.setRow ?_ (by first | (dsimp only; omega) | exact LeS.le | exact LeS.add _ | (simp; done) | (simp; omega)) _ | refine Ext.setCell ?_ (by first | (dsimp only; omega) | exact LeS.le | exact LeS.add _ | (simp; done) | (simp; omega)) _))) (by omega) (by omega) (by omega)).mono ?_; rintro e w' ⟨rfl, rfl⟩
  go_wp2_with fail
  go_ret
  exact ⟨rfl, (.of (by repeat (first | exact Ext.refl _ | refine Ext.up ?_ _ | refine Ext.alloc ?_ _ | refine Ext.drew ?_ | refine Ext.setRow ?_ (by first | (dsimp only; omega) | exact LeS.le | exact LeS.add _ | (simp; done) | (simp; omega)) _ | refine Ext.setCell ?_ (by first | (dsimp only; omega) | exact LeS.le | exact LeS.add _ | (simp; done) | (simp; omega)) _)))⟩
end Go.Proofs.Ytknohbdhbjppjaa
