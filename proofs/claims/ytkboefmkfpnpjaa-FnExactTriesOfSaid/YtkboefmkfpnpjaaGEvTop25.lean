/- Walks: versions that are put, the reference's side. -/
import Derived.Test.YtkboefmkfpnpjaaGEvTop04
import Derived.Test.YtkboefmkfpnpjaaGEvTop24
import Derived.Test.YtkboefmkfpnpjaaGEvTop15
import Derived.Test.YtkboefmkfpnpjaaGEvTop13
import Derived.Deep.RegionLaw
set_option linter.unusedSimpArgs false
set_option linter.unusedVariables false
namespace Go.Proofs.Ytkboefmkfpnpjaa
open Go Go.RowKit Go.Proofs

theorem insV_at {x : Ver} {l : List Ver} {j : Nat} (h1 : ∀ y ∈ l.take j, verLt y x = true) (h2 : ∀ y, l[j]? = some y → verLt y x = false) : insV x l = l.take j ++ x :: l.drop j := by
  unfold insV
  have e : l = l.take j ++ l.drop j := (List.take_append_drop j l).symm
  have hd : (l.drop j).takeWhile (fun y => verLt y x) = [] ∧ (l.drop j).dropWhile (fun y => verLt y x) = l.drop j := by
    rcases hq : l.drop j with _ | ⟨y, ys⟩
    · exact ⟨rfl, rfl⟩
    · have : l[j]? = some y := by have := congrArg (fun m => m[0]?) hq; simpa [List.getElem?_drop] using this
      have := h2 y this
      simp [this]
  conv => lhs; rw [e]
  rw [List.takeWhile_append_of_pos h1, List.dropWhile_append_of_pos h1, hd.1, hd.2, List.append_nil]
theorem oneVs (l : List Ver) : ∀ u ∈ l.flatMap Ver.enc, u.oneCell' = true := by
  intro u hu
  obtain ⟨x, _, h⟩ := List.mem_flatMap.1 hu
  exact oneV x u h
set_option maxRecDepth 100000 in
set_option maxHeartbeats 4000000 in
theorem l9Put_any (l : List Ver) (u : List Ent) (v vu : Value) (by_ : Int) (w : World) (h : SL (RF Ver.enc) 3 w v l) (hu : SL (RF Ent.enc) 2 w vu u) (hn : l.length ≤ 1048576) (hun : u.length ≤ 1048576) :
    Calls Try.prog 97 #[v, .int .i64 by_, vu] w fun e w' => ∃ v', e = .returned v' ∧ Up w w' ∧ Own Ver.enc 88 3 w.heap.size w' v' (putV l by_ u) := by
  have H := Lib.hid h
  obtain ⟨p0, c0, rfl, _, _⟩ := h.openc
  obtain ⟨pu, cu, rfl, hlu, hcu⟩ := hu.open
  clear h hu
  go_enter Try.func97, Try.ntmps97
  go_wp2_with (go_at_call 145; refine (l9Drop_any l _ by_ _ (H.out.up (by repeat (first | (with_reducible exact Ext.refl _) | (with_reducible refine Ext.up ?_ _) | (with_reducible refine Ext.alloc ?_ _) | (with_reducible refine Ext.drew ?_) | (with_reducible refine Ext.setRow ?_ (by first | exact LeS.le | exact LeS.add _ | (simp; done) | (simp; omega)) _) | (with_reducible refine Ext.setCell ?_ (by first | exact LeS.le | exact LeS.add _ | (simp; done) | (simp; omega)) _)))) (by omega)).mono ?_; rintro e w' ⟨v1, rfl, ⟨z1, rfl⟩, o1⟩)
  have O1 := Lib.hid o1; clear o1
  go_loopw [7, 8] (fun s7 s8 wr => ∃ k : Nat, s8 = .int .i64 k ∧ k ≤ u.length ∧ Up w wr ∧ Own Ver.enc 88 3 w.heap.size wr s7 (putTo by_ (dropV l by_) (u.take k))) (fun _ s8 _ => u.length - (intOf s8).toNat)
  case atStart => exact ⟨0, rfl, Nat.zero_le _, ⟨z1, rfl⟩, O1.out⟩
  case round =>
    obtain ⟨k, rfl, hk, ⟨z, rfl⟩, hown⟩ := hrel
    have hol : (putTo by_ (dropV l by_) (u.take k)).length ≤ 2100000 := by rw [putTo_length, List.length_take]; have := dropV_le l by_; omega
    by_cases hlt : k < u.length
    · obtain ⟨x, hxk⟩ := getElem?_some_of_lt hlt
      have Hsn := Lib.hid (putTo_snoc by_ (dropV l by_) hxk)
      obtain ⟨bu, offu, rfl, hbu, hcc⟩ := hcu k x hxk
      have e0 : w.cell? ⟨bu, offu + k * 2, none⟩ = some (.int .i64 x.k) := hcc 0 _ rfl
      have e1 : w.cell? ⟨bu, offu + k * 2 + 1, none⟩ = some (.int .i64 x.v) := hcc 1 _ rfl
      have kk : (0 : Int) ≤ (k : Int) := by omega
      have kl : (k : Int) < u.length := by omega
      clear hcu hcc hxk
      generalize putTo by_ (dropV l by_) (u.take k) = out at *
      obtain ⟨p, c, rfl, hl1, hc1⟩ := (hown.sl Ver.enc_length).openc
      have HO := Lib.hid hown; clear hown
      have hop := (HO.out.sl Ver.enc_length).open
      obtain ⟨_, _, hop1, _, hop⟩ := hop
      cases hop1
      rcases HO.out.2 with ⟨hv, h0⟩ | ⟨g, cap, cur, hv, hlo, hg, hnc, hcm, hcs, ht⟩
      · simp only [Value.slice.injEq] at hv
        obtain ⟨rfl, h1, rfl⟩ := hv
        obtain rfl : out = [] := List.eq_nil_of_length_eq_zero h0
        clear hop
        rw [show ([] : List Ver).length = 0 from rfl]
        go_wp2_with fail
        (go_region_held3 (fun w' => (∀ n i, ∀ [LtS n z.val], w'.cell? ⟨n, i, none⟩ = World.cell? z.val ⟨n, i, none⟩) ∧ Ext z.val w') ((refine S_of_ext ?_; (repeat (first | exact Ext.refl _ | refine Ext.up ?_ _ | refine Ext.alloc ?_ _ | refine Ext.drew ?_ | refine Ext.setRow ?_ (by first | (dsimp only; omega) | exact LeS.le | exact LeS.add _ | (simp; done) | (simp; omega)) _ | refine Ext.setCell ?_ (by first | (dsimp only; omega) | exact LeS.le | exact LeS.add _ | (simp; done) | (simp; omega)) _)); done)) (fail))
        go_wp2_with fail
        refine wp_named ?_; intro W5 hW5
        have d0 : W5.cell? ⟨z.val.heap.size, 0, none⟩ = some (.int .i64 x.k) := by rw [hW5]; go_simp
        have d1 : W5.cell? ⟨z.val.heap.size, 1, none⟩ = some (.int .i64 by_) := by rw [hW5]; go_simp
        have d2 : W5.cell? ⟨z.val.heap.size, 2, none⟩ = some (.int .i64 x.v) := by rw [hW5]; go_simp
        have E5 : Ext z.val W5 := by rw [hW5]; (exact (by repeat (first | (with_reducible exact Ext.refl _) | (with_reducible refine Ext.up ?_ _) | (with_reducible refine Ext.alloc ?_ _) | (with_reducible refine Ext.drew ?_) | (with_reducible refine Ext.setRow ?_ (by first | exact LeS.le | exact LeS.add _ | (simp; done) | (simp; omega)) _) | (with_reducible refine Ext.setCell ?_ (by first | exact LeS.le | exact LeS.add _ | (simp; done) | (simp; omega)) _))))
        have hS5 : z.val.heap.size < W5.heap.size := by rw [hW5]; simp
        clear hW5
        obtain ⟨zW, rfl⟩ := Up.of E5
        have hL5 : LtS z.val.heap.size zW.val := ⟨hS5⟩
        go_loopw [10] (fun s10 wr => s10 = .int .i64 0 ∧ Up zW.val wr) (fun s10 _ => 0)
        case atStart => exact ⟨rfl, (.of (by repeat (first | (with_reducible exact Ext.refl _) | (with_reducible refine Ext.up ?_ _) | (with_reducible refine Ext.alloc ?_ _) | (with_reducible refine Ext.drew ?_) | (with_reducible refine Ext.setRow ?_ (by first | exact LeS.le | exact LeS.add _ | (simp; done) | (simp; omega)) _) | (with_reducible refine Ext.setCell ?_ (by first | exact LeS.le | exact LeS.add _ | (simp; done) | (simp; omega)) _))))⟩
        case round =>
          obtain ⟨rfl, ⟨z5, rfl⟩⟩ := hrel
          go_wp2_with fail
          (refine wp_region_up (by kernel_rfl) (by kernel_rfl) ?_; (repeat (go_big_quiet_step (fail))); refine wpQuiet_nil ?_; intro _ hw'; obtain ⟨zq, hw''⟩ := hw'; subst hw'')
          go_wp2_with (at_builtin; refine wpList_catA fVer rfl (.tmp 68) (.tmp 71) rfl Ver.enc Ver.enc_length zW.val (lo := zW.val.heap.size) [] [] rfl (Own.lit rfl LeS.le rfl rfl Ver.enc_length (by simp)) (by repeat (first | (with_reducible exact Ext.refl _) | (with_reducible refine Ext.up ?_ _) | (with_reducible refine Ext.alloc ?_ _) | (with_reducible refine Ext.drew ?_) | (with_reducible refine Ext.setRow ?_ (by first | exact LeS.le | exact LeS.add _ | (simp; done) | (simp; omega)) _) | (with_reducible refine Ext.setCell ?_ (by first | exact LeS.le | exact LeS.add _ | (simp; done) | (simp; omega)) _))) LeS.le LeS.le rfl (SL.nil _ _ _ _ _) (oneVs _) (by simp) (by simp) ?_; intro v9 z9 o9 g9 b9)
          have O9 := Lib.hid o9; clear o9 g9 b9
          have HOj := Lib.hid (show Own Ver.enc 88 3 w.heap.size z.val (.slice none 0 0) [] from Own.nil _ _ _ _ _)
          have AP9 := Lib.hid (show Apart v9 (.slice none 0 0) from Apart.nil' _ _ _)
          go_wp2_with fail
          go_region_law (first | (refine step_pushG fVer (by rfl) (.tmp 75) (.tmp 77) (by rfl) Ver.enc Ver.enc_length w (lo := w.heap.size) [mkV by_ x] [] (by rfl) (by rfl) (heap_alloc_new _ _) (HOj.out.up (by repeat (first | exact Ext.refl _ | refine Ext.up ?_ _ | refine Ext.alloc ?_ _ | refine Ext.drew ?_ | refine Ext.setRow ?_ (by first | (dsimp only; omega) | exact LeS.le | exact LeS.add _ | (simp; done) | (simp; omega)) _ | refine Ext.setCell ?_ (by first | (dsimp only; omega) | exact LeS.le | exact LeS.add _ | (simp; done) | (simp; omega)) _))) (by repeat (first | exact Ext.refl _ | refine Ext.up ?_ _ | refine Ext.alloc ?_ _ | refine Ext.drew ?_ | refine Ext.setRow ?_ (by first | (dsimp only; omega) | exact LeS.le | exact LeS.add _ | (simp; done) | (simp; omega)) _ | refine Ext.setCell ?_ (by first | (dsimp only; omega) | exact LeS.le | exact LeS.add _ | (simp; done) | (simp; omega)) _)) (Nat.le_refl _) LeS.le (by rfl) (by decide) (by rfl) (oneVs _) (by simp) (by simp) ?_; intro v7 z7 o7 g7 b7; have K9 := Own.keep (O9.out.up (by repeat (first | exact Ext.refl _ | refine Ext.up ?_ _ | refine Ext.alloc ?_ _ | refine Ext.drew ?_ | refine Ext.setRow ?_ (by first | (dsimp only; omega) | exact LeS.le | exact LeS.add _ | (simp; done) | (simp; omega)) _ | refine Ext.setCell ?_ (by first | (dsimp only; omega) | exact LeS.le | exact LeS.add _ | (simp; done) | (simp; omega)) _))) g7 AP9.out) | (refine step_catA fVer (by rfl) (.tmp 78) (.tmp 79) (by rfl) Ver.enc Ver.enc_length w (lo := w.heap.size) [] ([] ++ [mkV by_ x]) (by rfl) (by rfl) o7 (by repeat (first | exact Ext.refl _ | refine Ext.up ?_ _ | refine Ext.alloc ?_ _ | refine Ext.drew ?_ | refine Ext.setRow ?_ (by first | (dsimp only; omega) | exact LeS.le | exact LeS.add _ | (simp; done) | (simp; omega)) _ | refine Ext.setCell ?_ (by first | (dsimp only; omega) | exact LeS.le | exact LeS.add _ | (simp; done) | (simp; omega)) _)) (Nat.le_refl _) LeS.le (K9.sl Ver.enc_length) (oneVs _) (by simp) (by simp) ?_; intro v8 z8 o8 g8 b8))
          all_goals
            have O8 := Lib.hid o8; clear o8 g8 b8 K9 o7 g7 b7
            go_wp2_with fail
            go_roundw
            case rel =>
              refine ⟨k + 1, by go_num, by omega, ⟨z8, rfl⟩, ?_⟩
              rw [Hsn.out]
              have := O8.out
              simpa [insV] using this
            case measure => simp [intOf]; omega
      · cases hv
        have hlg : g < z.val.heap.size := (Array.getElem?_eq_some_iff.1 hg).1
        clear hg hcs ht hnc
        go_wp2_with fail
        (go_region_held3 (fun w' => (∀ n i, ∀ [LtS n z.val], w'.cell? ⟨n, i, none⟩ = World.cell? z.val ⟨n, i, none⟩) ∧ Ext z.val w') ((refine S_of_ext ?_; (repeat (first | exact Ext.refl _ | refine Ext.up ?_ _ | refine Ext.alloc ?_ _ | refine Ext.drew ?_ | refine Ext.setRow ?_ (by first | (dsimp only; omega) | exact LeS.le | exact LeS.add _ | (simp; done) | (simp; omega)) _ | refine Ext.setCell ?_ (by first | (dsimp only; omega) | exact LeS.le | exact LeS.add _ | (simp; done) | (simp; omega)) _)); done)) (fail))
        all_goals
          go_wp2_with fail
          refine wp_named ?_; intro W5 hW5
          have d0 : W5.cell? ⟨z.val.heap.size, 0, none⟩ = some (.int .i64 x.k) := by rw [hW5]; go_simp
          have d1 : W5.cell? ⟨z.val.heap.size, 1, none⟩ = some (.int .i64 by_) := by rw [hW5]; go_simp
          have d2 : W5.cell? ⟨z.val.heap.size, 2, none⟩ = some (.int .i64 x.v) := by rw [hW5]; go_simp
          have E5 : Ext z.val W5 := by rw [hW5]; (exact (by repeat (first | (with_reducible exact Ext.refl _) | (with_reducible refine Ext.up ?_ _) | (with_reducible refine Ext.alloc ?_ _) | (with_reducible refine Ext.drew ?_) | (with_reducible refine Ext.setRow ?_ (by first | exact LeS.le | exact LeS.add _ | (simp; done) | (simp; omega)) _) | (with_reducible refine Ext.setCell ?_ (by first | exact LeS.le | exact LeS.add _ | (simp; done) | (simp; omega)) _))))
          have hS5 : z.val.heap.size < W5.heap.size := by rw [hW5]; simp
          have hLg : LtS g z.val := ⟨hlg⟩
          clear hW5
          obtain ⟨zW, rfl⟩ := Up.of E5
          have hL5 : LtS z.val.heap.size zW.val := ⟨hS5⟩
          go_loopw [10] (fun s10 wr => ∃ j : Nat, s10 = .int .i64 j ∧ j ≤ out.length ∧ Up zW.val wr ∧ ∀ y ∈ out.take j, verLt y (mkV by_ x) = true) (fun s10 _ => out.length - (intOf s10).toNat)
          case atStart => exact ⟨0, rfl, Nat.zero_le _, (.of (by repeat (first | (with_reducible exact Ext.refl _) | (with_reducible refine Ext.up ?_ _) | (with_reducible refine Ext.alloc ?_ _) | (with_reducible refine Ext.drew ?_) | (with_reducible refine Ext.setRow ?_ (by first | exact LeS.le | exact LeS.add _ | (simp; done) | (simp; omega)) _) | (with_reducible refine Ext.setCell ?_ (by first | exact LeS.le | exact LeS.add _ | (simp; done) | (simp; omega)) _)))), by simp⟩
          case round =>
            obtain ⟨j, rfl, hj, ⟨z5, rfl⟩, hall⟩ := hrel
            have Hall := Lib.hid hall; clear hall
            by_cases hjl : j < out.length
            · obtain ⟨y, hyk⟩ := getElem?_some_of_lt hjl
              obtain ⟨_, _, ee, _, hyc⟩ := hop j y hyk
              cases ee
              have f0 : z.val.cell? ⟨g, j * 3, none⟩ = some (.int .i64 y.k) := by simpa using hyc 0 _ rfl
              have f1 : z.val.cell? ⟨g, j * 3 + 1, none⟩ = some (.int .i64 y.b) := by simpa using hyc 1 _ rfl
              have j0 : (0 : Int) ≤ (j : Int) := by omega
              have j1 : (j : Int) < out.length := by omega
              have Hy := Lib.hid hyk
              clear hyc hyk
              by_cases q1 : y.k < x.k
              · have q1' : decide (y.k < x.k) = true := by simpa using q1
                have Q1 := Lib.hid q1; clear q1
                go_wp2_with fail
                (refine wp_region_up (by kernel_rfl) (by kernel_rfl) ?_; (repeat (go_big_quiet_step (fail))); refine wpQuiet_nil ?_; intro _ hw'; obtain ⟨zq, hw''⟩ := hw'; subst hw'')
                go_wp2_with fail
                go_roundw
                case rel => exact ⟨j + 1, by go_num, by omega, (.of (by repeat (first | (with_reducible exact Ext.refl _) | (with_reducible refine Ext.up ?_ _) | (with_reducible refine Ext.alloc ?_ _) | (with_reducible refine Ext.drew ?_) | (with_reducible refine Ext.setRow ?_ (by first | exact LeS.le | exact LeS.add _ | (simp; done) | (simp; omega)) _) | (with_reducible refine Ext.setCell ?_ (by first | exact LeS.le | exact LeS.add _ | (simp; done) | (simp; omega)) _)))), by rw [List.take_add_one, Hy.out]; intro y' hy'; rcases List.mem_append.1 hy' with h | h; exact Hall.out y' h; simp at h; subst h; exact (verLt_iff _ _).2 (.inl Q1.out)⟩
                case measure => simp [intOf]; omega
              · rcases Int.lt_trichotomy y.k x.k with h1 | h1 | h1
                · exact absurd h1 q1
                · have g1 : decide (y.k < x.k) = false := by simpa using q1
                  have g2 : (y.k == x.k) = true := by simpa using h1
                  by_cases q3 : y.b < by_
                  · have g3 : decide (y.b < by_) = true := by simpa using q3
                    have Q1 := Lib.hid h1; have Q3 := Lib.hid q3; clear h1 q1 q3
                    go_wp2_with fail
                    (refine wp_region_up (by kernel_rfl) (by kernel_rfl) ?_; (repeat (go_big_quiet_step (fail))); refine wpQuiet_nil ?_; intro _ hw'; obtain ⟨zq, hw''⟩ := hw'; subst hw'')
                    go_wp2_with fail
                    go_roundw
                    case rel => exact ⟨j + 1, by go_num, by omega, (.of (by repeat (first | (with_reducible exact Ext.refl _) | (with_reducible refine Ext.up ?_ _) | (with_reducible refine Ext.alloc ?_ _) | (with_reducible refine Ext.drew ?_) | (with_reducible refine Ext.setRow ?_ (by first | exact LeS.le | exact LeS.add _ | (simp; done) | (simp; omega)) _) | (with_reducible refine Ext.setCell ?_ (by first | exact LeS.le | exact LeS.add _ | (simp; done) | (simp; omega)) _)))), by rw [List.take_add_one, Hy.out]; intro y' hy'; rcases List.mem_append.1 hy' with h | h; exact Hall.out y' h; simp at h; subst h; exact (verLt_iff _ _).2 (.inr ⟨Q1.out, Q3.out⟩)⟩
                    case measure => simp [intOf]; omega
                  · have g3 : decide (y.b < by_) = false := by simpa using q3
                    have Hstop := Lib.hid (show ∀ y, out[j]? = some y → verLt y (mkV by_ x) = false by intro y' hy'; rw [Hy.out] at hy'; cases hy'; refine verLt_not ?_; show ¬ (y.k < x.k ∨ (y.k = x.k ∧ y.b < by_)); omega)
                    clear h1 q1 q3
                    go_wp2_with fail
                    (refine wp_region_up (by kernel_rfl) (by kernel_rfl) ?_; (repeat (go_big_quiet_step (fail))); refine wpQuiet_nil ?_; intro _ hw'; obtain ⟨zq, hw''⟩ := hw'; subst hw'')
                    go_wp2_with (at_builtin; refine wpList_catA fVer rfl (.tmp 68) (.tmp 71) rfl Ver.enc Ver.enc_length zW.val (lo := zW.val.heap.size) (out.drop j) [] rfl (Own.lit rfl LeS.le rfl rfl Ver.enc_length (by simp)) (by repeat (first | (with_reducible exact Ext.refl _) | (with_reducible refine Ext.up ?_ _) | (with_reducible refine Ext.alloc ?_ _) | (with_reducible refine Ext.drew ?_) | (with_reducible refine Ext.setRow ?_ (by first | exact LeS.le | exact LeS.add _ | (simp; done) | (simp; omega)) _) | (with_reducible refine Ext.setCell ?_ (by first | exact LeS.le | exact LeS.add _ | (simp; done) | (simp; omega)) _))) LeS.le LeS.le rfl (by first | exact SL.up (SL.rest (HO.out.sl Ver.enc_length) hj (by omega) (by omega) (by omega)) (by repeat (first | (with_reducible exact Ext.refl _) | (with_reducible refine Ext.up ?_ _) | (with_reducible refine Ext.alloc ?_ _) | (with_reducible refine Ext.drew ?_) | (with_reducible refine Ext.setRow ?_ (by first | exact LeS.le | exact LeS.add _ | (simp; done) | (simp; omega)) _) | (with_reducible refine Ext.setCell ?_ (by first | exact LeS.le | exact LeS.add _ | (simp; done) | (simp; omega)) _))) | (have e : out.length - j = 0 := (by omega); have e2 : out.drop j = [] := (List.drop_eq_nil_of_le (by omega)); rw [e, e2]; exact SL.nil _ _ _ _ _)) (oneVs _) (by simp; omega) (by simp; omega) ?_; intro v9 z9 o9 g9 b9)
                    all_goals
                      have O9 := Lib.hid o9; clear o9 g9 b9
                      have HOj := Lib.hid (HO.out.first Ver.enc_length hj)
                      have AP9 := Lib.hid (Apart.of_lt HOj.out O9.out (Nat.le_of_lt hS5)).symm
                      have hlj : (out.take j).length = j := by rw [List.length_take]; omega
                      have hld : (out.drop j).length = out.length - j := List.length_drop
                      have hjc : j ≤ c := by omega
                      go_wp2_with fail
                      go_region_law (first | (refine step_pushG fVer (by rfl) (.tmp 75) (.tmp 77) (by rfl) Ver.enc Ver.enc_length w (lo := w.heap.size) [mkV by_ x] (out.take j) (by rfl) (by rfl) (heap_alloc_new _ _) (HOj.out.up (by repeat (first | exact Ext.refl _ | refine Ext.up ?_ _ | refine Ext.alloc ?_ _ | refine Ext.drew ?_ | refine Ext.setRow ?_ (by first | (dsimp only; omega) | exact LeS.le | exact LeS.add _ | (simp; done) | (simp; omega)) _ | refine Ext.setCell ?_ (by first | (dsimp only; omega) | exact LeS.le | exact LeS.add _ | (simp; done) | (simp; omega)) _))) (by repeat (first | exact Ext.refl _ | refine Ext.up ?_ _ | refine Ext.alloc ?_ _ | refine Ext.drew ?_ | refine Ext.setRow ?_ (by first | (dsimp only; omega) | exact LeS.le | exact LeS.add _ | (simp; done) | (simp; omega)) _ | refine Ext.setCell ?_ (by first | (dsimp only; omega) | exact LeS.le | exact LeS.add _ | (simp; done) | (simp; omega)) _)) (Nat.le_refl _) LeS.le (by rfl) (by decide) (by rfl) (oneVs _) (by simp; omega) (by simp; omega) ?_; intro v7 z7 o7 g7 b7; have K9 := Own.keep (O9.out.up (by repeat (first | exact Ext.refl _ | refine Ext.up ?_ _ | refine Ext.alloc ?_ _ | refine Ext.drew ?_ | refine Ext.setRow ?_ (by first | (dsimp only; omega) | exact LeS.le | exact LeS.add _ | (simp; done) | (simp; omega)) _ | refine Ext.setCell ?_ (by first | (dsimp only; omega) | exact LeS.le | exact LeS.add _ | (simp; done) | (simp; omega)) _))) g7 AP9.out) | (refine step_catA fVer (by rfl) (.tmp 78) (.tmp 79) (by rfl) Ver.enc Ver.enc_length w (lo := w.heap.size) (out.drop j) (out.take j ++ [mkV by_ x]) (by rfl) (by rfl) o7 (by repeat (first | exact Ext.refl _ | refine Ext.up ?_ _ | refine Ext.alloc ?_ _ | refine Ext.drew ?_ | refine Ext.setRow ?_ (by first | (dsimp only; omega) | exact LeS.le | exact LeS.add _ | (simp; done) | (simp; omega)) _ | refine Ext.setCell ?_ (by first | (dsimp only; omega) | exact LeS.le | exact LeS.add _ | (simp; done) | (simp; omega)) _)) (Nat.le_refl _) LeS.le (K9.sl Ver.enc_length) (oneVs _) (by simp; omega) (by simp; omega) ?_; intro v8 z8 o8 g8 b8))
                      all_goals
                        have O8 := Lib.hid o8; clear o8 g8 b8 K9 o7 g7 b7
                        go_wp2_with fail
                        go_roundw
                        case rel =>
                          refine ⟨k + 1, by go_num, by omega, ⟨z8, rfl⟩, ?_⟩
                          rw [Hsn.out, insV_at Hall.out Hstop.out]
                          have := O8.out
                          rw [List.append_assoc] at this
                          exact this
                        case measure => simp [intOf]; omega
                · have g1 : decide (y.k < x.k) = false := by simpa using q1
                  have g2 : (y.k == x.k) = false := by rw [beq_eq_false_iff_ne]; omega
                  have Hstop := Lib.hid (show ∀ y, out[j]? = some y → verLt y (mkV by_ x) = false by intro y' hy'; rw [Hy.out] at hy'; cases hy'; refine verLt_not ?_; show ¬ (y.k < x.k ∨ (y.k = x.k ∧ y.b < by_)); omega)
                  clear h1 q1
                  go_wp2_with fail
                  (refine wp_region_up (by kernel_rfl) (by kernel_rfl) ?_; (repeat (go_big_quiet_step (fail))); refine wpQuiet_nil ?_; intro _ hw'; obtain ⟨zq, hw''⟩ := hw'; subst hw'')
                  go_wp2_with (at_builtin; refine wpList_catA fVer rfl (.tmp 68) (.tmp 71) rfl Ver.enc Ver.enc_length zW.val (lo := zW.val.heap.size) (out.drop j) [] rfl (Own.lit rfl LeS.le rfl rfl Ver.enc_length (by simp)) (by repeat (first | (with_reducible exact Ext.refl _) | (with_reducible refine Ext.up ?_ _) | (with_reducible refine Ext.alloc ?_ _) | (with_reducible refine Ext.drew ?_) | (with_reducible refine Ext.setRow ?_ (by first | exact LeS.le | exact LeS.add _ | (simp; done) | (simp; omega)) _) | (with_reducible refine Ext.setCell ?_ (by first | exact LeS.le | exact LeS.add _ | (simp; done) | (simp; omega)) _))) LeS.le LeS.le rfl (by first | exact SL.up (SL.rest (HO.out.sl Ver.enc_length) hj (by omega) (by omega) (by omega)) (by repeat (first | (with_reducible exact Ext.refl _) | (with_reducible refine Ext.up ?_ _) | (with_reducible refine Ext.alloc ?_ _) | (with_reducible refine Ext.drew ?_) | (with_reducible refine Ext.setRow ?_ (by first | exact LeS.le | exact LeS.add _ | (simp; done) | (simp; omega)) _) | (with_reducible refine Ext.setCell ?_ (by first | exact LeS.le | exact LeS.add _ | (simp; done) | (simp; omega)) _))) | (have e : out.length - j = 0 := (by omega); have e2 : out.drop j = [] := (List.drop_eq_nil_of_le (by omega)); rw [e, e2]; exact SL.nil _ _ _ _ _)) (oneVs _) (by simp; omega) (by simp; omega) ?_; intro v9 z9 o9 g9 b9)
                  all_goals
                    have O9 := Lib.hid o9; clear o9 g9 b9
                    have HOj := Lib.hid (HO.out.first Ver.enc_length hj)
                    have AP9 := Lib.hid (Apart.of_lt HOj.out O9.out (Nat.le_of_lt hS5)).symm
                    have hlj : (out.take j).length = j := by rw [List.length_take]; omega
                    have hld : (out.drop j).length = out.length - j := List.length_drop
                    have hjc : j ≤ c := by omega
                    go_wp2_with fail
                    go_region_law (first | (refine step_pushG fVer (by rfl) (.tmp 75) (.tmp 77) (by rfl) Ver.enc Ver.enc_length w (lo := w.heap.size) [mkV by_ x] (out.take j) (by rfl) (by rfl) (heap_alloc_new _ _) (HOj.out.up (by repeat (first | exact Ext.refl _ | refine Ext.up ?_ _ | refine Ext.alloc ?_ _ | refine Ext.drew ?_ | refine Ext.setRow ?_ (by first | (dsimp only; omega) | exact LeS.le | exact LeS.add _ | (simp; done) | (simp; omega)) _ | refine Ext.setCell ?_ (by first | (dsimp only; omega) | exact LeS.le | exact LeS.add _ | (simp; done) | (simp; omega)) _))) (by repeat (first | exact Ext.refl _ | refine Ext.up ?_ _ | refine Ext.alloc ?_ _ | refine Ext.drew ?_ | refine Ext.setRow ?_ (by first | (dsimp only; omega) | exact LeS.le | exact LeS.add _ | (simp; done) | (simp; omega)) _ | refine Ext.setCell ?_ (by first | (dsimp only; omega) | exact LeS.le | exact LeS.add _ | (simp; done) | (simp; omega)) _)) (Nat.le_refl _) LeS.le (by rfl) (by decide) (by rfl) (oneVs _) (by simp; omega) (by simp; omega) ?_; intro v7 z7 o7 g7 b7; have K9 := Own.keep (O9.out.up (by repeat (first | exact Ext.refl _ | refine Ext.up ?_ _ | refine Ext.alloc ?_ _ | refine Ext.drew ?_ | refine Ext.setRow ?_ (by first | (dsimp only; omega) | exact LeS.le | exact LeS.add _ | (simp; done) | (simp; omega)) _ | refine Ext.setCell ?_ (by first | (dsimp only; omega) | exact LeS.le | exact LeS.add _ | (simp; done) | (simp; omega)) _))) g7 AP9.out) | (refine step_catA fVer (by rfl) (.tmp 78) (.tmp 79) (by rfl) Ver.enc Ver.enc_length w (lo := w.heap.size) (out.drop j) (out.take j ++ [mkV by_ x]) (by rfl) (by rfl) o7 (by repeat (first | exact Ext.refl _ | refine Ext.up ?_ _ | refine Ext.alloc ?_ _ | refine Ext.drew ?_ | refine Ext.setRow ?_ (by first | (dsimp only; omega) | exact LeS.le | exact LeS.add _ | (simp; done) | (simp; omega)) _ | refine Ext.setCell ?_ (by first | (dsimp only; omega) | exact LeS.le | exact LeS.add _ | (simp; done) | (simp; omega)) _)) (Nat.le_refl _) LeS.le (K9.sl Ver.enc_length) (oneVs _) (by simp; omega) (by simp; omega) ?_; intro v8 z8 o8 g8 b8))
                    all_goals
                      have O8 := Lib.hid o8; clear o8 g8 b8 K9 o7 g7 b7
                      go_wp2_with fail
                      go_roundw
                      case rel =>
                        refine ⟨k + 1, by go_num, by omega, ⟨z8, rfl⟩, ?_⟩
                        rw [Hsn.out, insV_at Hall.out Hstop.out]
                        have := O8.out
                        rw [List.append_assoc] at this
                        exact this
                      case measure => simp [intOf]; omega
            · have Hstop := Lib.hid (show ∀ y, out[j]? = some y → verLt y (mkV by_ x) = false by intro y' hy'; have := (List.getElem?_eq_some_iff.1 hy').1; omega)
              go_wp2_with fail
              (refine wp_region_up (by kernel_rfl) (by kernel_rfl) ?_; (repeat (go_big_quiet_step (fail))); refine wpQuiet_nil ?_; intro _ hw'; obtain ⟨zq, hw''⟩ := hw'; subst hw'')
              go_wp2_with (at_builtin; refine wpList_catA fVer rfl (.tmp 68) (.tmp 71) rfl Ver.enc Ver.enc_length zW.val (lo := zW.val.heap.size) (out.drop j) [] rfl (Own.lit rfl LeS.le rfl rfl Ver.enc_length (by simp)) (by repeat (first | (with_reducible exact Ext.refl _) | (with_reducible refine Ext.up ?_ _) | (with_reducible refine Ext.alloc ?_ _) | (with_reducible refine Ext.drew ?_) | (with_reducible refine Ext.setRow ?_ (by first | exact LeS.le | exact LeS.add _ | (simp; done) | (simp; omega)) _) | (with_reducible refine Ext.setCell ?_ (by first | exact LeS.le | exact LeS.add _ | (simp; done) | (simp; omega)) _))) LeS.le LeS.le rfl (by first | exact SL.up (SL.rest (HO.out.sl Ver.enc_length) hj (by omega) (by omega) (by omega)) (by repeat (first | (with_reducible exact Ext.refl _) | (with_reducible refine Ext.up ?_ _) | (with_reducible refine Ext.alloc ?_ _) | (with_reducible refine Ext.drew ?_) | (with_reducible refine Ext.setRow ?_ (by first | exact LeS.le | exact LeS.add _ | (simp; done) | (simp; omega)) _) | (with_reducible refine Ext.setCell ?_ (by first | exact LeS.le | exact LeS.add _ | (simp; done) | (simp; omega)) _))) | (have e : out.length - j = 0 := (by omega); have e2 : out.drop j = [] := (List.drop_eq_nil_of_le (by omega)); rw [e, e2]; exact SL.nil _ _ _ _ _)) (oneVs _) (by simp; omega) (by simp; omega) ?_; intro v9 z9 o9 g9 b9)
              all_goals
                try (replace h := h.symm; subst h)
                have O9 := Lib.hid o9; clear o9 g9 b9
                have HOj := Lib.hid (HO.out.first Ver.enc_length hj)
                have AP9 := Lib.hid (Apart.of_lt HOj.out O9.out (Nat.le_of_lt hS5)).symm
                have hlj : (out.take j).length = j := by rw [List.length_take]; omega
                have hld : (out.drop j).length = out.length - j := List.length_drop
                try (have hjc : j ≤ c := by omega)
                go_wp2_with fail
                go_region_law (first | (refine step_pushG fVer (by rfl) (.tmp 75) (.tmp 77) (by rfl) Ver.enc Ver.enc_length w (lo := w.heap.size) [mkV by_ x] (out.take j) (by rfl) (by rfl) (heap_alloc_new _ _) (HOj.out.up (by repeat (first | exact Ext.refl _ | refine Ext.up ?_ _ | refine Ext.alloc ?_ _ | refine Ext.drew ?_ | refine Ext.setRow ?_ (by first | (dsimp only; omega) | exact LeS.le | exact LeS.add _ | (simp; done) | (simp; omega)) _ | refine Ext.setCell ?_ (by first | (dsimp only; omega) | exact LeS.le | exact LeS.add _ | (simp; done) | (simp; omega)) _))) (by repeat (first | exact Ext.refl _ | refine Ext.up ?_ _ | refine Ext.alloc ?_ _ | refine Ext.drew ?_ | refine Ext.setRow ?_ (by first | (dsimp only; omega) | exact LeS.le | exact LeS.add _ | (simp; done) | (simp; omega)) _ | refine Ext.setCell ?_ (by first | (dsimp only; omega) | exact LeS.le | exact LeS.add _ | (simp; done) | (simp; omega)) _)) (Nat.le_refl _) LeS.le (by rfl) (by decide) (by rfl) (oneVs _) (by simp; omega) (by simp; omega) ?_; intro v7 z7 o7 g7 b7; have K9 := Own.keep (O9.out.up (by repeat (first | exact Ext.refl _ | refine Ext.up ?_ _ | refine Ext.alloc ?_ _ | refine Ext.drew ?_ | refine Ext.setRow ?_ (by first | (dsimp only; omega) | exact LeS.le | exact LeS.add _ | (simp; done) | (simp; omega)) _ | refine Ext.setCell ?_ (by first | (dsimp only; omega) | exact LeS.le | exact LeS.add _ | (simp; done) | (simp; omega)) _))) g7 AP9.out) | (refine step_catA fVer (by rfl) (.tmp 78) (.tmp 79) (by rfl) Ver.enc Ver.enc_length w (lo := w.heap.size) (out.drop j) (out.take j ++ [mkV by_ x]) (by rfl) (by rfl) o7 (by repeat (first | exact Ext.refl _ | refine Ext.up ?_ _ | refine Ext.alloc ?_ _ | refine Ext.drew ?_ | refine Ext.setRow ?_ (by first | (dsimp only; omega) | exact LeS.le | exact LeS.add _ | (simp; done) | (simp; omega)) _ | refine Ext.setCell ?_ (by first | (dsimp only; omega) | exact LeS.le | exact LeS.add _ | (simp; done) | (simp; omega)) _)) (Nat.le_refl _) LeS.le (K9.sl Ver.enc_length) (oneVs _) (by simp; omega) (by simp; omega) ?_; intro v8 z8 o8 g8 b8))
                all_goals
                  have O8 := Lib.hid o8; clear o8 g8 b8 K9 o7 g7 b7
                  go_wp2_with fail
                  go_roundw
                  case rel =>
                    refine ⟨k + 1, by go_num, by omega, ⟨z8, rfl⟩, ?_⟩
                    rw [Hsn.out, insV_at Hall.out Hstop.out]
                    have := O8.out
                    rw [List.append_assoc] at this
                    exact this
                  case measure => simp [intOf]; omega
    · obtain rfl : k = u.length := by omega
      rw [List.take_length] at hown
      have HO := Lib.hid hown; clear hown hcu
      go_wp2_with fail
      go_ret
      exact ⟨_, rfl, (.of (by repeat (first | (with_reducible exact Ext.refl _) | (with_reducible refine Ext.up ?_ _) | (with_reducible refine Ext.alloc ?_ _) | (with_reducible refine Ext.drew ?_) | (with_reducible refine Ext.setRow ?_ (by first | exact LeS.le | exact LeS.add _ | (simp; done) | (simp; omega)) _) | (with_reducible refine Ext.setCell ?_ (by first | exact LeS.le | exact LeS.add _ | (simp; done) | (simp; omega)) _)))), HO.out⟩
end Go.Proofs.Ytkboefmkfpnpjaa
