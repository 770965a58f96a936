/- Walks: orders of actions by their levels: the program's function, and the law FnExactLevelOrder. -/
import Derived.Test.YtldmigmnbmnaiaaLvo2
namespace Go.Proofs.Ytldmigmnbmnaiaa
open Go Go.RowKit Go.Proofs

theorem Own.ne' {α : Type} {enc : α → List Value} {e sz lo : Nat} {w : World} {v : Value} {l : List α} (h : Own enc e sz lo w v l) (hne : l ≠ []) : ∃ g c, v = .slice (some ⟨g, 0, none⟩) l.length c := by
  rcases h.2 with ⟨_, hn⟩ | ⟨g, cap, cur, hv, _⟩
  · exact absurd (List.eq_nil_of_length_eq_zero hn) hne
  · exact ⟨g, cap, hv⟩
set_option maxRecDepth 100000 in
set_option maxHeartbeats 1000000 in
theorem iLevelOrder_any (l : List Actn) (v : Value) (w : World) (h : SL (RF Actn.enc) 4 w v l) :
    Calls Try.prog 36 #[v] w fun e w' => ∃ v', e = .returned v' ∧ Up w w' ∧ Own encI 3 1 w.heap.size w' v' (lvoR l) := by
  have H := Lib.hid h; clear h
  have ks := fun w v h => iLevelsOf_any l v w h
  have hlen := lvlR_le l
  have hin := Lib.hid (lvlR_in l)
  have hu := Lib.hid (fun m => lvoR_unique l (m := m))
  have hz : (lvlR l).length = 0 → lvoR l = [] := by
    intro e
    show lvRows _ _ = _
    rw [e]; rfl
  generalize hO : lvoR l = lo at *
  generalize lvlR l = lv at *
  clear hO
  go_enter Try.func36, Try.ntmps36
  go_wp2_with fail
  refine (ks _ _ (H.out.up (by repeat (first | (with_reducible exact Ext.refl _) | (with_reducible refine Ext.up ?_ _) | (with_reducible refine Ext.alloc ?_ _) | (with_reducible refine Ext.drew ?_) | (with_reducible refine Ext.setRow ?_ (by first | exact LeS.le | exact LeS.add _ | (simp; done) | (simp; omega)) _) | (with_reducible refine Ext.setCell ?_ (by first | exact LeS.le | exact LeS.add _ | (simp; done) | (simp; omega)) _))))).mono ?_; rintro e w' ⟨y, rfl, ⟨z1, rfl⟩, oy⟩
  obtain ⟨p, c, rfl, _, _⟩ := (oy.sl encI_length).openc
  have OY := Lib.hid oy; clear oy
  go_wp2_with fail
  go_loopw [4, 5, 10] (fun s4 _ s10 wr => ∃ (k : Nat), s10 = .int .i64 k ∧ k ≤ lv.length ∧ Up (z1.val.alloc (.cells #[.slice p lv.length c] 25)) wr ∧ Own encI 3 1 (z1.val.heap.size + 1) wr s4 (rangeI k)) (fun _ _ s10 _ => lv.length - (intOf s10).toNat)
  case atStart => exact ⟨0, rfl, Nat.zero_le _, (.of (by repeat (first | (with_reducible exact Ext.refl _) | (with_reducible refine Ext.up ?_ _) | (with_reducible refine Ext.alloc ?_ _) | (with_reducible refine Ext.drew ?_) | (with_reducible refine Ext.setRow ?_ (by first | exact LeS.le | exact LeS.add _ | (simp; done) | (simp; omega)) _) | (with_reducible refine Ext.setCell ?_ (by first | exact LeS.le | exact LeS.add _ | (simp; done) | (simp; omega)) _)))), Own.nil _ _ _ _ _⟩
  case round =>
    obtain ⟨k, rfl, hk, ⟨z, rfl⟩, hown⟩ := hrel
    have HO := Lib.hid hown; clear hown
    by_cases hlt : k < lv.length
    · have hrl : (rangeI k).length ≤ 10 := by rw [rangeI_length]; omega
      have hsz : z1.val.heap.size + 1 ≤ z.val.heap.size := by have := z.ext.size; simpa using this
      go_wp2_with (at_builtin; refine wpList_pushG fI rfl (.tmp 13) (.tmp 15) rfl encI encI_length (z1.val.alloc (.cells #[.slice p lv.length c] 25)) (lo := z1.val.heap.size + 1) [(k : Int)] (rangeI k) rfl (HO.out.up (by repeat (first | (with_reducible exact Ext.refl _) | (with_reducible refine Ext.up ?_ _) | (with_reducible refine Ext.alloc ?_ _) | (with_reducible refine Ext.drew ?_) | (with_reducible refine Ext.setRow ?_ (by first | exact LeS.le | exact LeS.add _ | (simp; done) | (simp; omega)) _) | (with_reducible refine Ext.setCell ?_ (by first | exact LeS.le | exact LeS.add _ | (simp; done) | (simp; omega)) _)))) (by repeat (first | (with_reducible exact Ext.refl _) | (with_reducible refine Ext.up ?_ _) | (with_reducible refine Ext.alloc ?_ _) | (with_reducible refine Ext.drew ?_) | (with_reducible refine Ext.setRow ?_ (by first | exact LeS.le | exact LeS.add _ | (simp; done) | (simp; omega)) _) | (with_reducible refine Ext.setCell ?_ (by first | exact LeS.le | exact LeS.add _ | (simp; done) | (simp; omega)) _))) (by simp) hsz rfl (by rfl) (by go_simp) rfl (oneIs' _) (by simp; omega) (by simp; omega) ?_; intro v7 z7 o7 _ _)
      have HO7 := Lib.hid o7; clear o7
      go_wp2_with fail
      go_roundw
      case rel => exact ⟨k + 1, by go_num, by omega, ⟨z7, rfl⟩, by rw [rangeI_succ]; exact HO7.out⟩
      case measure => simp [intOf] <;> omega
    · obtain rfl : k = lv.length := by omega
      by_cases hn : lv.length = 0
      · have hlo := hz hn
        subst hlo
        obtain rfl : lv = [] := List.eq_nil_of_length_eq_zero hn
        obtain ⟨p4, c4, rfl, _, _⟩ := (HO.out.sl encI_length).openc
        have HO2 := Lib.hid (show Own encI 3 1 (z1.val.heap.size + 1) z.val (.slice p4 0 c4) [] from HO.out)
        rw [show (rangeI ([] : List Int).length).length = 0 from rfl]
        go_wp2_with fail
        refine (AnyF.slices_SortFunc_none { Try.sortInt with } p4 c4 _ _).mono ?_; rintro e w' ⟨rfl, rfl⟩
        go_wp2_with fail
        go_ret
        exact ⟨_, rfl, (.of (by repeat (first | (with_reducible exact Ext.refl _) | (with_reducible refine Ext.up ?_ _) | (with_reducible refine Ext.alloc ?_ _) | (with_reducible refine Ext.drew ?_) | (with_reducible refine Ext.setRow ?_ (by first | exact LeS.le | exact LeS.add _ | (simp; done) | (simp; omega)) _) | (with_reducible refine Ext.setCell ?_ (by first | exact LeS.le | exact LeS.add _ | (simp; done) | (simp; omega)) _)))), Own.lo HO2.out (by have := z1.ext.size; omega)⟩
      · obtain ⟨g, c4, rfl⟩ := Own.ne' HO.out (by intro e; have := congrArg List.length e; rw [rangeI_length] at this; simp at this; exact hn (by rw [this]; rfl))
        obtain ⟨p0, cl, e0⟩ := Own.ne' OY.out (by intro e; rw [e] at hn; exact hn rfl)
        cases e0
        have hbox : z.val.cell? ⟨z1.val.heap.size, 0, none⟩ = some (.slice (some ⟨p0, 0, none⟩) lv.length c) := by go_simp
        have hg := (World.ownsRow.lt HO.out g rfl).1
        have hp := (World.ownsRow.lt OY.out p0 rfl).2
        rw [rangeI_length]
        have HO2 := Lib.hid (show Own encI 3 1 (z1.val.heap.size + 1) z.val (.slice (some ⟨g, 0, none⟩) lv.length c4) (rangeI lv.length) by have := HO.out; rw [rangeI_length] at this; exact this)
        go_wp2_with fail
        refine (sortLv lv lv.length rfl (by omega) hlen (fun a ha => by have := hin.out a ha; omega) g c4 z1.val.heap.size p0 c _ _ _ HO2.out (OY.out.up (by repeat (first | (with_reducible exact Ext.refl _) | (with_reducible refine Ext.up ?_ _) | (with_reducible refine Ext.alloc ?_ _) | (with_reducible refine Ext.drew ?_) | (with_reducible refine Ext.setRow ?_ (by first | exact LeS.le | exact LeS.add _ | (simp; done) | (simp; omega)) _) | (with_reducible refine Ext.setCell ?_ (by first | exact LeS.le | exact LeS.add _ | (simp; done) | (simp; omega)) _)))) hbox (by omega) (by omega)).mono ?_; rintro e w' ⟨rfl, hgr, m, hml, hmm, hms, hmo⟩
        have hm := hu.out m hmm hms
        subst hm
        have E : Ext w w' := Ext.grown (b := z.val) (by repeat (first | (with_reducible exact Ext.refl _) | (with_reducible refine Ext.up ?_ _) | (with_reducible refine Ext.alloc ?_ _) | (with_reducible refine Ext.drew ?_) | (with_reducible refine Ext.setRow ?_ (by first | exact LeS.le | exact LeS.add _ | (simp; done) | (simp; omega)) _) | (with_reducible refine Ext.setCell ?_ (by first | exact LeS.le | exact LeS.add _ | (simp; done) | (simp; omega)) _))) hgr (fun k hk => by cases hk; have := z1.ext.size; omega)
        have HM := Lib.hid (Own.lo (lo' := w.heap.size) hmo (by have := z1.ext.size; omega))
        clear hgr hmo
        go_wp2_with fail
        go_ret
        exact ⟨_, rfl, .of E, HM.out⟩
end Go.Proofs.Ytldmigmnbmnaiaa
