/- Walks: FnExactLevelsOf: levels of actions. The layings of slices.SortFunc of the kit's shelf at this program: printed by the kit's lay-plain.mjs (wip/laysort.sh), a block a seat. Walks: orders of actions by their levels; plain laws on them. -/
import Derived.Test.YtkboefmkfpnpjaaGEvTop10
import Derived.Test.YtkboefmkfpnpjaaGEvTop01
import Derived.Test.YtkboefmkfpnpjaaGEvTop22
import Derived.Shelf.SlSortCmp.Whole1
import Derived.Shelf.SlSortCmp.WholeK
import Derived.Shelf.SlSortCmp.NoneTotal
import Derived.Ground.SlsfProg
import Derived.Test.YtkboefmkfpnpjaaProg
import Derived.Test.YtkboefmkfpnpjaaGEvTop13
import Derived.Test.YtkboefmkfpnpjaaGEvTop06
import Derived.Sort.Grow
set_option linter.unusedSimpArgs false
set_option linter.unusedVariables false
namespace Go.Proofs.Ytkboefmkfpnpjaa
open Go Go.RowKit Go.Proofs

theorem conflict_okL {x y : Actn} (hx : x.ok = true) (hy : y.ok = true) : conflict x y = conf x y := by simp [conflict, hx, hy]
theorem max_lt (a b : Int) : max a b = if a < b then b else a := by split <;> omega
def lvlR (l : List Actn) : List Int := if actsOk l = true then lvlTo l l.length else []
theorem lvlR_no {l : List Actn} (h : actsOk l = false) : lvlR l = [] := by unfold lvlR; rw [h]; rfl
theorem lvlR_yes {l : List Actn} (h : actsOk l = true) : lvlR l = lvlTo l l.length := by unfold lvlR; rw [h]; rfl
theorem lvlR_le (l : List Actn) : (lvlR l).length ≤ 10 := by
  rcases h : actsOk l with _ | _
  · rw [lvlR_no h]; simp
  · rw [lvlR_yes h, lvlTo_length]; exact actsOk_len h
set_option maxHeartbeats 4000000 in
theorem iLevelsOf_any (l : List Actn) (v : Value) (w : World) (h : SL (RF Actn.enc) 4 w v l) :
    Calls Try.prog 102 #[v] w fun e w' => ∃ v', e = .returned v' ∧ Up w w' ∧ Own encI 3 1 w.heap.size w' v' (lvlR l) := by
  have Hl := Lib.hid h
  obtain ⟨pl, cl, hvl, hll, hcl⟩ := h.open
  obtain ⟨_, cl', hvl', _, hlc⟩ := h.openc
  rw [hvl] at hvl'; cases hvl'
  subst hvl
  clear h
  rcases ha : actsOk l with _ | _
  · rw [lvlR_no ha]
    go_enter Try.func102, Try.ntmps102
    go_wp2_with (go_at_call 69; refine (iActionsValid_any l _ _ Hl.out).mono ?_; rintro e w' ⟨rfl, z1, rfl⟩)
    go_ret
    exact ⟨_, rfl, (.of (by repeat (first | exact Ext.refl _ | refine Ext.up ?_ _ | refine Ext.alloc ?_ _ | refine Ext.drew ?_ | refine Ext.setRow ?_ (by first | (dsimp only; omega) | exact LeS.le | exact LeS.add _ | (simp; done) | (simp; omega)) _ | refine Ext.setCell ?_ (by first | (dsimp only; omega) | exact LeS.le | exact LeS.add _ | (simp; done) | (simp; omega)) _))), Own.nil _ _ _ _ _⟩
  rw [lvlR_yes ha]
  have hl10 := actsOk_len ha
  have Ha := Lib.hid ha
  go_enter Try.func102, Try.ntmps102
  go_wp2_with (go_at_call 69; refine (iActionsValid_any l _ _ Hl.out).mono ?_; rintro e w' ⟨rfl, z1, rfl⟩)
  go_loopw [3, 4, 5, 6, 7, 8, 14] (fun s3 _ _ _ _ _ s14 wr => ∃ k : Nat, s14 = .int .i64 k ∧ k ≤ l.length ∧ Up w wr ∧ Own encI 3 1 w.heap.size wr s3 (lvlTo l k)) (fun _ _ _ _ _ _ s14 _ => l.length - (intOf s14).toNat)
  case atStart => exact ⟨0, rfl, Nat.zero_le _, (.of (by repeat (first | exact Ext.refl _ | refine Ext.up ?_ _ | refine Ext.alloc ?_ _ | refine Ext.drew ?_ | refine Ext.setRow ?_ (by first | (dsimp only; omega) | exact LeS.le | exact LeS.add _ | (simp; done) | (simp; omega)) _ | refine Ext.setCell ?_ (by first | (dsimp only; omega) | exact LeS.le | exact LeS.add _ | (simp; done) | (simp; omega)) _))), Own.nil _ _ _ _ _⟩
  case round =>
    obtain ⟨k, rfl, hk, ⟨z, rfl⟩, hown⟩ := hrel
    by_cases hlt : k < l.length
    · obtain ⟨y, hyk⟩ := getElem?_some_of_lt hlt
      obtain ⟨b, off, hp, hb, _⟩ := hcl k y hyk
      obtain ⟨y0, y1, y2, y3⟩ := acell hcl hp hyk
      subst hp
      have Hy := Lib.hid hyk; have Hcl := Lib.hid hcl; have Hown := Lib.hid hown
      have hkc : (k : Int) ≤ (cl : Int) := by omega
      have hk0 : (0 : Int) ≤ (k : Int) := by omega
      clear hyk hcl hown
      go_wp2_with fail
      go_loopw [6, 7, 8, 23] (fun s6 _ _ s23 wr => ∃ j : Nat, s23 = .int .i64 j ∧ s6 = .int .i64 (lvlAt l (lvlTo l k) k j) ∧ j ≤ k ∧ Up (z.val.alloc (.cells #[.int .i64 y.kind, .int .i64 y.src, .int .i64 y.dst, .int .i64 y.amt] 24)) wr) (fun _ _ _ s23 _ => k - (intOf s23).toNat)
      case atStart => exact ⟨0, rfl, rfl, Nat.zero_le _, (.of (by repeat (first | exact Ext.refl _ | refine Ext.up ?_ _ | refine Ext.alloc ?_ _ | refine Ext.drew ?_ | refine Ext.setRow ?_ (by first | (dsimp only; omega) | exact LeS.le | exact LeS.add _ | (simp; done) | (simp; omega)) _ | refine Ext.setCell ?_ (by first | (dsimp only; omega) | exact LeS.le | exact LeS.add _ | (simp; done) | (simp; omega)) _)))⟩
      case round =>
        obtain ⟨j, rfl, rfl, hj, ⟨z2, rfl⟩⟩ := hrel
        by_cases hjt : j < k
        · obtain ⟨x, hxj⟩ := getElem?_some_of_lt (show j < l.length by omega)
          obtain ⟨x0, x1, x2, x3⟩ := acell Hcl.out rfl hxj
          obtain ⟨o, ho⟩ := getElem?_some_of_lt (l := lvlTo l k) (k := j) (by rw [lvlTo_length]; exact hjt)
          obtain ⟨o0, o1⟩ := lvlTo_in l k o (List.mem_of_getElem? ho)
          obtain ⟨po, co, rfl, _, hco⟩ := (Hown.out.sl encI_length).open
          obtain ⟨g, offg, hpo, hLg, hcg⟩ := hco j o ho
          subst hpo
          have hg : z.val.cell? ⟨g, offg + j, none⟩ = some (.int .i64 o) := by have := hcg 0 _ rfl; simpa using this
          have hok1 := actsOk_at Ha.out Hy.out
          have hok2 := actsOk_at Ha.out hxj
          have hlen : (lvlTo l k).length = k := lvlTo_length l k
          have hjl : (j : Int) < ((lvlTo l k).length : Int) := by omega
          have Hlen := Lib.hid hlen
          have Hk1 := Lib.hid hok1; have Hk2 := Lib.hid hok2; have Hx := Lib.hid hxj; have Ho := Lib.hid ho
          clear hok1 hok2 hxj ho hco hcg hlen
          rcases hcf : conf y x with _ | _
          · have Hn := Lib.hid (lvlAt_no Hx.out Hy.out Ho.out ((conf_comm x y).trans hcf))
            go_wp2_with (go_at_call 62; refine ((hcf ▸ conflicts_any y x _ Hk1.out Hk2.out)).mono ?_; rintro e w' ⟨rfl, z3, rfl⟩)
            go_roundw
            case rel => exact ⟨j + 1, by go_num, by rw [Hn.out], by omega, (.of (by repeat (first | exact Ext.refl _ | refine Ext.up ?_ _ | refine Ext.alloc ?_ _ | refine Ext.drew ?_ | refine Ext.setRow ?_ (by first | (dsimp only; omega) | exact LeS.le | exact LeS.add _ | (simp; done) | (simp; omega)) _ | refine Ext.setCell ?_ (by first | (dsimp only; omega) | exact LeS.le | exact LeS.add _ | (simp; done) | (simp; omega)) _)))⟩
            case measure => simp [intOf]; omega
          · have Hn := Lib.hid (lvlAt_yes Hx.out Hy.out Ho.out ((conf_comm x y).trans hcf))
            go_wp2_with (go_at_call 62; refine ((hcf ▸ conflicts_any y x _ Hk1.out Hk2.out)).mono ?_; rintro e w' ⟨rfl, z3, rfl⟩)
            go_roundw
            case rel => exact ⟨j + 1, by go_num, by rw [Hn.out, max_lt], by omega, (.of (by repeat (first | exact Ext.refl _ | refine Ext.up ?_ _ | refine Ext.alloc ?_ _ | refine Ext.drew ?_ | refine Ext.setRow ?_ (by first | (dsimp only; omega) | exact LeS.le | exact LeS.add _ | (simp; done) | (simp; omega)) _ | refine Ext.setCell ?_ (by first | (dsimp only; omega) | exact LeS.le | exact LeS.add _ | (simp; done) | (simp; omega)) _)))⟩
            case measure => simp [intOf]; omega
        · obtain rfl : j = k := by omega
          have hle : (lvlTo l j).length ≤ 10 := by rw [lvlTo_length]; omega
          go_wp2_with (at_builtin; refine wpList_push1 fI rfl (.tmp 39) (.tmp 41) rfl encI w (lvlAt l (lvlTo l j) j j) (lvlTo l j) rfl (Hown.out.up (by repeat (first | exact Ext.refl _ | refine Ext.up ?_ _ | refine Ext.alloc ?_ _ | refine Ext.drew ?_ | refine Ext.setRow ?_ (by first | (dsimp only; omega) | exact LeS.le | exact LeS.add _ | (simp; done) | (simp; omega)) _ | refine Ext.setCell ?_ (by first | (dsimp only; omega) | exact LeS.le | exact LeS.add _ | (simp; done) | (simp; omega)) _))) (by repeat (first | exact Ext.refl _ | refine Ext.up ?_ _ | refine Ext.alloc ?_ _ | refine Ext.drew ?_ | refine Ext.setRow ?_ (by first | (dsimp only; omega) | exact LeS.le | exact LeS.add _ | (simp; done) | (simp; omega)) _ | refine Ext.setCell ?_ (by first | (dsimp only; omega) | exact LeS.le | exact LeS.add _ | (simp; done) | (simp; omega)) _)) rfl (by go_simp) rfl rfl (oneI _) (by omega) (by omega) ?_; intro v1 z4 hown1)
          have hown2 := Lib.hid hown1; clear hown1
          go_wp2_with fail
          go_roundw
          case rel => exact ⟨j + 1, by go_num, by omega, (.of (by repeat (first | exact Ext.refl _ | refine Ext.up ?_ _ | refine Ext.alloc ?_ _ | refine Ext.drew ?_ | refine Ext.setRow ?_ (by first | (dsimp only; omega) | exact LeS.le | exact LeS.add _ | (simp; done) | (simp; omega)) _ | refine Ext.setCell ?_ (by first | (dsimp only; omega) | exact LeS.le | exact LeS.add _ | (simp; done) | (simp; omega)) _))), hown2.out⟩
          case measure => simp [intOf]; omega
    · go_wp2_with fail
      go_ret
      obtain rfl : k = l.length := by omega
      exact ⟨_, rfl, ⟨z, rfl⟩, hown⟩
set_option maxHeartbeats 4000000 in
theorem sLevelsOf_any (l : List Actn) (v : Value) (w : World) (h : SL (RF Actn.enc) 4 w v l) :
    Calls Try.prog 172 #[v] w fun e w' => ∃ v', e = .returned v' ∧ Up w w' ∧ Own encI 3 1 w.heap.size w' v' (lvlR l) := by
  have Hl := Lib.hid h
  obtain ⟨pl, cl, hvl, hll, hcl⟩ := h.open
  subst hvl
  clear h
  rcases ha : actsOk l with _ | _
  · rw [lvlR_no ha]
    by_cases h0 : 0 < l.length
    · have h0' : decide ((0 : Int) < (l.length : Int)) = true := by simpa using h0
      go_enter Try.func172, Try.ntmps172
      go_wp2_with fail
      refine wp_loop_rounds 1 ?_; rw [rounds_succ]
      go_wp2_with (go_at_call 36; refine (sActionsValid_any l _ _ (Hl.out.up (by repeat (first | exact Ext.refl _ | refine Ext.up ?_ _ | refine Ext.alloc ?_ _ | refine Ext.drew ?_ | refine Ext.setRow ?_ (by first | (dsimp only; omega) | exact LeS.le | exact LeS.add _ | (simp; done) | (simp; omega)) _ | refine Ext.setCell ?_ (by first | (dsimp only; omega) | exact LeS.le | exact LeS.add _ | (simp; done) | (simp; omega)) _)))).mono ?_; rintro e w' ⟨rfl, z1, rfl⟩)
      go_ret
      exact ⟨_, rfl, (.of (by repeat (first | exact Ext.refl _ | refine Ext.up ?_ _ | refine Ext.alloc ?_ _ | refine Ext.drew ?_ | refine Ext.setRow ?_ (by first | (dsimp only; omega) | exact LeS.le | exact LeS.add _ | (simp; done) | (simp; omega)) _ | refine Ext.setCell ?_ (by first | (dsimp only; omega) | exact LeS.le | exact LeS.add _ | (simp; done) | (simp; omega)) _))), (Own.lit rfl LeS.le rfl rfl encI_length (Nat.zero_le _)).up ((Ext.refl _).up _)⟩
    · have h0' : decide ((0 : Int) < (l.length : Int)) = false := by simpa using h0
      go_enter Try.func172, Try.ntmps172
      go_wp2_with fail
      refine wp_loop_rounds 1 ?_; rw [rounds_succ]
      go_wp2_with fail
      go_ret
      exact ⟨_, rfl, (.of (by repeat (first | exact Ext.refl _ | refine Ext.up ?_ _ | refine Ext.alloc ?_ _ | refine Ext.drew ?_ | refine Ext.setRow ?_ (by first | (dsimp only; omega) | exact LeS.le | exact LeS.add _ | (simp; done) | (simp; omega)) _ | refine Ext.setCell ?_ (by first | (dsimp only; omega) | exact LeS.le | exact LeS.add _ | (simp; done) | (simp; omega)) _))), Own.lit rfl LeS.le rfl rfl encI_length (Nat.zero_le _)⟩
  rw [lvlR_yes ha]
  have hl10 := actsOk_len ha
  have Ha := Lib.hid ha
  go_enter Try.func172, Try.ntmps172
  go_wp2_with fail
  go_loopw [3, 4, 5, 6] (fun s3 s4 _ _ wr => ∃ k : Nat, s4 = .int .i64 k ∧ k ≤ l.length ∧ Up w wr ∧ Own encI 3 1 w.heap.size wr s3 (lvlTo l k)) (fun _ s4 _ _ _ => l.length - (intOf s4).toNat)
  case atStart => exact ⟨0, rfl, Nat.zero_le _, (.of (by repeat (first | exact Ext.refl _ | refine Ext.up ?_ _ | refine Ext.alloc ?_ _ | refine Ext.drew ?_ | refine Ext.setRow ?_ (by first | (dsimp only; omega) | exact LeS.le | exact LeS.add _ | (simp; done) | (simp; omega)) _ | refine Ext.setCell ?_ (by first | (dsimp only; omega) | exact LeS.le | exact LeS.add _ | (simp; done) | (simp; omega)) _))), Own.lit rfl LeS.le rfl rfl encI_length (Nat.zero_le _)⟩
  case round =>
    obtain ⟨k, rfl, hk, ⟨z, rfl⟩, hown⟩ := hrel
    by_cases hlt : k < l.length
    · obtain ⟨y, hyk⟩ := getElem?_some_of_lt hlt
      obtain ⟨b, off, hp, hb, _⟩ := hcl k y hyk
      obtain ⟨y0, y1, y2, y3⟩ := acell hcl hp hyk
      subst hp
      have Hy := Lib.hid hyk; have Hcl := Lib.hid hcl; have Hown := Lib.hid hown
      have hk0 : (0 : Int) ≤ (k : Int) := by omega
      have hk1 : (k : Int) < l.length := by omega
      clear hyk hcl hown
      go_wp2_with (go_at_call 36; refine (sActionsValid_any l _ _ (Hl.out.up (by repeat (first | exact Ext.refl _ | refine Ext.up ?_ _ | refine Ext.alloc ?_ _ | refine Ext.drew ?_ | refine Ext.setRow ?_ (by first | (dsimp only; omega) | exact LeS.le | exact LeS.add _ | (simp; done) | (simp; omega)) _ | refine Ext.setCell ?_ (by first | (dsimp only; omega) | exact LeS.le | exact LeS.add _ | (simp; done) | (simp; omega)) _)))).mono ?_; rintro e w' ⟨rfl, z1, rfl⟩)
      go_loopw [5, 6] (fun s5 s6 wr => ∃ j : Nat, s6 = .int .i64 j ∧ s5 = .int .i64 (lvlAt l (lvlTo l k) k j) ∧ j ≤ k ∧ Up z1.val wr) (fun _ s6 _ => k - (intOf s6).toNat)
      case atStart => exact ⟨0, rfl, rfl, Nat.zero_le _, (.of (by repeat (first | exact Ext.refl _ | refine Ext.up ?_ _ | refine Ext.alloc ?_ _ | refine Ext.drew ?_ | refine Ext.setRow ?_ (by first | (dsimp only; omega) | exact LeS.le | exact LeS.add _ | (simp; done) | (simp; omega)) _ | refine Ext.setCell ?_ (by first | (dsimp only; omega) | exact LeS.le | exact LeS.add _ | (simp; done) | (simp; omega)) _)))⟩
      case round =>
        obtain ⟨j, rfl, rfl, hj, ⟨z2, rfl⟩⟩ := hrel
        by_cases hjt : j < k
        · obtain ⟨x, hxj⟩ := getElem?_some_of_lt (show j < l.length by omega)
          obtain ⟨x0, x1, x2, x3⟩ := acell Hcl.out rfl hxj
          obtain ⟨o, ho⟩ := getElem?_some_of_lt (l := lvlTo l k) (k := j) (by rw [lvlTo_length]; exact hjt)
          obtain ⟨o0, o1⟩ := lvlTo_in l k o (List.mem_of_getElem? ho)
          obtain ⟨po, co, rfl, _, hco⟩ := (Hown.out.sl encI_length).open
          obtain ⟨g, offg, hpo, hLg, hcg⟩ := hco j o ho
          subst hpo
          have hg : z.val.cell? ⟨g, offg + j, none⟩ = some (.int .i64 o) := by have := hcg 0 _ rfl; simpa using this
          have hok1 := actsOk_at Ha.out Hy.out
          have hok2 := actsOk_at Ha.out hxj
          have hlen : (lvlTo l k).length = k := lvlTo_length l k
          have hjl : (j : Int) < ((lvlTo l k).length : Int) := by omega
          have hj0 : (0 : Int) ≤ (j : Int) := by omega
          have hj1 : (j : Int) < l.length := by omega
          have Hlen := Lib.hid hlen
          have Hk := Lib.hid (conflict_okL hok2 hok1); have Hx := Lib.hid hxj; have Ho := Lib.hid ho
          clear hok1 hok2 hxj ho hco hcg hlen
          rcases hcf : conf x y with _ | _
          · have Hn := Lib.hid (lvlAt_no Hx.out Hy.out Ho.out hcf)
            go_wp2_with fail
            (refine wp_region_up (by kernel_rfl) (by kernel_rfl) ?_; (repeat (go_big_quiet_step ((go_at_call 16; exact Calls.up (((Hk.out.trans hcf) ▸ sConflict_any x y _)))))); refine wpQuiet_nil ?_; intro _ hw'; obtain ⟨zq, hw''⟩ := hw'; subst hw'')
            go_wp2_with fail
            go_roundw
            case rel => exact ⟨j + 1, by go_num, by rw [Hn.out], by omega, (.of (by repeat (first | exact Ext.refl _ | refine Ext.up ?_ _ | refine Ext.alloc ?_ _ | refine Ext.drew ?_ | refine Ext.setRow ?_ (by first | (dsimp only; omega) | exact LeS.le | exact LeS.add _ | (simp; done) | (simp; omega)) _ | refine Ext.setCell ?_ (by first | (dsimp only; omega) | exact LeS.le | exact LeS.add _ | (simp; done) | (simp; omega)) _)))⟩
            case measure => simp [intOf]; omega
          · have Hn := Lib.hid (lvlAt_yes Hx.out Hy.out Ho.out hcf)
            go_wp2_with fail
            (refine wp_region_up (by kernel_rfl) (by kernel_rfl) ?_; (repeat (go_big_quiet_step ((go_at_call 16; exact Calls.up (((Hk.out.trans hcf) ▸ sConflict_any x y _)))))); refine wpQuiet_nil ?_; intro _ hw'; obtain ⟨zq, hw''⟩ := hw'; subst hw'')
            go_wp2_with fail
            go_roundw
            case rel => exact ⟨j + 1, by go_num, by rw [Hn.out, max_lt], by omega, (.of (by repeat (first | exact Ext.refl _ | refine Ext.up ?_ _ | refine Ext.alloc ?_ _ | refine Ext.drew ?_ | refine Ext.setRow ?_ (by first | (dsimp only; omega) | exact LeS.le | exact LeS.add _ | (simp; done) | (simp; omega)) _ | refine Ext.setCell ?_ (by first | (dsimp only; omega) | exact LeS.le | exact LeS.add _ | (simp; done) | (simp; omega)) _)))⟩
            case measure => simp [intOf]; omega
        · obtain rfl : j = k := by omega
          have hle : (lvlTo l j).length ≤ 10 := by rw [lvlTo_length]; omega
          go_wp2_with (at_builtin; refine wpList_push1 fI rfl (.tmp 39) (.tmp 41) rfl encI w (lvlAt l (lvlTo l j) j j) (lvlTo l j) rfl (Hown.out.up (by repeat (first | exact Ext.refl _ | refine Ext.up ?_ _ | refine Ext.alloc ?_ _ | refine Ext.drew ?_ | refine Ext.setRow ?_ (by first | (dsimp only; omega) | exact LeS.le | exact LeS.add _ | (simp; done) | (simp; omega)) _ | refine Ext.setCell ?_ (by first | (dsimp only; omega) | exact LeS.le | exact LeS.add _ | (simp; done) | (simp; omega)) _))) (by repeat (first | exact Ext.refl _ | refine Ext.up ?_ _ | refine Ext.alloc ?_ _ | refine Ext.drew ?_ | refine Ext.setRow ?_ (by first | (dsimp only; omega) | exact LeS.le | exact LeS.add _ | (simp; done) | (simp; omega)) _ | refine Ext.setCell ?_ (by first | (dsimp only; omega) | exact LeS.le | exact LeS.add _ | (simp; done) | (simp; omega)) _)) rfl (by go_simp) rfl rfl (oneI _) (by omega) (by omega) ?_; intro v1 z4 hown1)
          have hown2 := Lib.hid hown1; clear hown1
          go_wp2_with fail
          go_roundw
          case rel => exact ⟨j + 1, by go_num, by omega, (.of (by repeat (first | exact Ext.refl _ | refine Ext.up ?_ _ | refine Ext.alloc ?_ _ | refine Ext.drew ?_ | refine Ext.setRow ?_ (by first | (dsimp only; omega) | exact LeS.le | exact LeS.add _ | (simp; done) | (simp; omega)) _ | refine Ext.setCell ?_ (by first | (dsimp only; omega) | exact LeS.le | exact LeS.add _ | (simp; done) | (simp; omega)) _))), hown2.out⟩
          case measure => simp [intOf]; omega
    · go_wp2_with fail
      go_ret
      obtain rfl : k = l.length := by omega
      exact ⟨_, rfl, ⟨z, rfl⟩, hown⟩
end Go.Proofs.Ytkboefmkfpnpjaa
namespace Go.Proofs
open Go.Shelf
def Try.sortInt_ren : Go.Shelf.Ren := ⟨fun | 6 => 103 | 15 => 148 | 14 => 147 | 28 => 183 | 29 => 184 | 20 => 175 | 21 => 176 | 22 => 177 | 23 => 178 | 24 => 179 | 25 => 180 | 26 => 181 | 27 => 182 | 46 => 203 | 47 => 204 | 48 => 205 | 49 => 206 | 50 => 207 | 57 => 211 | n => n, fun | 22 => 42 | 24 => 3 | 25 => 52 | 3 => 3 | 39 => 158 | 0 => 0 | 53 => 197 | 55 => 199 | 4 => 4 | 46 => 190 | 45 => 189 | 50 => 194 | 5 => 5 | 9 => 9 | 66 => 212 | 70 => 216 | 76 => 220 | 77 => 60 | n => n, fun | n => n⟩
theorem Try.sortInt : Go.Proofs.SlLaysF.n6 Try.prog Try.sortInt_ren := {
  mixed := by kernel_rfl
  f6 := ⟨Try.f103.name, by decide, Try.func103.trans (congrArg some (by kernel_rfl))⟩
  f14 := ⟨Try.f147.name, by decide, Try.func147.trans (congrArg some (by kernel_rfl))⟩
  f15 := Try.func148.trans (congrArg some (by kernel_rfl))
  f20 := ⟨Try.f175.name, by decide, Try.func175.trans (congrArg some (by kernel_rfl))⟩
  f21 := ⟨Try.f176.name, by decide, Try.func176.trans (congrArg some (by kernel_rfl))⟩
  f22 := ⟨Try.f177.name, by decide, Try.func177.trans (congrArg some (by kernel_rfl))⟩
  f23 := ⟨Try.f178.name, by decide, Try.func178.trans (congrArg some (by kernel_rfl))⟩
  f24 := ⟨Try.f179.name, by decide, Try.func179.trans (congrArg some (by kernel_rfl))⟩
  f25 := ⟨Try.f180.name, by decide, Try.func180.trans (congrArg some (by kernel_rfl))⟩
  f26 := ⟨Try.f181.name, by decide, Try.func181.trans (congrArg some (by kernel_rfl))⟩
  f27 := ⟨Try.f182.name, by decide, Try.func182.trans (congrArg some (by kernel_rfl))⟩
  f28 := Try.func183.trans (congrArg some (by kernel_rfl))
  f29 := Try.func184.trans (congrArg some (by kernel_rfl))
  f46 := ⟨Try.f203.name, by decide, Try.func203.trans (congrArg some (by kernel_rfl))⟩
  f47 := Try.func204.trans (congrArg some (by kernel_rfl))
  f48 := Try.func205.trans (congrArg some (by kernel_rfl))
  f49 := ⟨Try.f206.name, by decide, Try.func206.trans (congrArg some (by kernel_rfl))⟩
  f50 := ⟨Try.f207.name, by decide, Try.func207.trans (congrArg some (by kernel_rfl))⟩
  f57 := ⟨Try.f211.name, by decide, Try.func211.trans (congrArg some (by kernel_rfl))⟩
  t0 := Try.underlying0
  a0 := Try.isAgg0
  z0 := Try.sizeOf0
  v0 := Try.zeroValue0
  t3 := Try.underlying3
  a3 := Try.isAgg3
  z3 := Try.sizeOf3
  v3 := Try.zeroValue3
  t4 := Try.underlying4
  a4 := Try.isAgg4
  z4 := Try.sizeOf4
  v4 := Try.zeroValue4
  t5 := Try.underlying5
  a5 := Try.isAgg5
  z5 := Try.sizeOf5
  v5 := Try.zeroValue5
  t9 := Try.underlying9
  a9 := Try.isAgg9
  z9 := Try.sizeOf9
  v9 := Try.zeroValue9
  t22 := Try.underlying42
  a22 := Try.isAgg42
  z22 := Try.sizeOf42
  v22 := Try.zeroValue42
  a24 := Try.isAgg3
  z24 := Try.sizeOf3
  t25 := Try.underlying52
  a25 := Try.isAgg52
  z25 := Try.sizeOf52
  v25 := Try.zeroValue52
  t39 := Try.underlying158
  a39 := Try.isAgg158
  z39 := Try.sizeOf158
  v39 := Try.zeroValue158
  t45 := Try.underlying189
  a45 := Try.isAgg189
  z45 := Try.sizeOf189
  v45 := Try.zeroValue189
  t46 := Try.underlying190
  a46 := Try.isAgg190
  z46 := Try.sizeOf190
  v46 := Try.zeroValue190
  t50 := Try.underlying194
  a50 := Try.isAgg194
  z50 := Try.sizeOf194
  v50 := Try.zeroValue194
  t53 := Try.underlying197
  a53 := Try.isAgg197
  z53 := Try.sizeOf197
  v53 := Try.zeroValue197
  t55 := Try.underlying199
  a55 := Try.isAgg199
  z55 := Try.sizeOf199
  v55 := Try.zeroValue199
  t66 := Try.underlying212
  a66 := Try.isAgg212
  z66 := Try.sizeOf212
  v66 := Try.zeroValue212
  t70 := Try.underlying216
  a70 := Try.isAgg216
  z70 := Try.sizeOf216
  v70 := Try.zeroValue216
  t76 := Try.underlying220
  a76 := Try.isAgg220
  z76 := Try.sizeOf220
  v76 := Try.zeroValue220
  t77 := Try.underlying60
  a77 := Try.isAgg60
  z77 := Try.sizeOf60
  v77 := Try.zeroValue60 }
def Try.sortVer_ren : Go.Shelf.Ren := ⟨fun | 6 => 144 | 15 => 148 | 14 => 174 | 28 => 183 | 29 => 184 | 20 => 195 | 21 => 196 | 22 => 197 | 23 => 198 | 24 => 199 | 25 => 200 | 26 => 201 | 27 => 202 | 46 => 208 | 47 => 204 | 48 => 205 | 49 => 209 | 50 => 210 | 57 => 212 | n => n, fun | 22 => 57 | 24 => 88 | 25 => 118 | 3 => 3 | 39 => 158 | 0 => 0 | 53 => 197 | 55 => 199 | 4 => 4 | 46 => 190 | 45 => 189 | 50 => 194 | 5 => 5 | 9 => 9 | 66 => 212 | 70 => 216 | 76 => 220 | 77 => 60 | n => n, fun | n => n⟩
theorem Try.sortVer : Go.Proofs.SlLaysF0.n6 Try.prog Try.sortVer_ren := {
  mixed := by kernel_rfl
  f6 := ⟨Try.f144.name, by decide, Try.func144.trans (congrArg some (by kernel_rfl))⟩
  f14 := ⟨Try.f174.name, by decide, Try.func174.trans (congrArg some (by kernel_rfl))⟩
  f15 := Try.func148.trans (congrArg some (by kernel_rfl))
  f20 := ⟨Try.f195.name, by decide, Try.func195.trans (congrArg some (by kernel_rfl))⟩
  f21 := ⟨Try.f196.name, by decide, Try.func196.trans (congrArg some (by kernel_rfl))⟩
  f22 := ⟨Try.f197.name, by decide, Try.func197.trans (congrArg some (by kernel_rfl))⟩
  f23 := ⟨Try.f198.name, by decide, Try.func198.trans (congrArg some (by kernel_rfl))⟩
  f24 := ⟨Try.f199.name, by decide, Try.func199.trans (congrArg some (by kernel_rfl))⟩
  f25 := ⟨Try.f200.name, by decide, Try.func200.trans (congrArg some (by kernel_rfl))⟩
  f26 := ⟨Try.f201.name, by decide, Try.func201.trans (congrArg some (by kernel_rfl))⟩
  f27 := ⟨Try.f202.name, by decide, Try.func202.trans (congrArg some (by kernel_rfl))⟩
  f28 := Try.func183.trans (congrArg some (by kernel_rfl))
  f29 := Try.func184.trans (congrArg some (by kernel_rfl))
  f46 := ⟨Try.f208.name, by decide, Try.func208.trans (congrArg some (by kernel_rfl))⟩
  f47 := Try.func204.trans (congrArg some (by kernel_rfl))
  f48 := Try.func205.trans (congrArg some (by kernel_rfl))
  f49 := ⟨Try.f209.name, by decide, Try.func209.trans (congrArg some (by kernel_rfl))⟩
  f50 := ⟨Try.f210.name, by decide, Try.func210.trans (congrArg some (by kernel_rfl))⟩
  f57 := ⟨Try.f212.name, by decide, Try.func212.trans (congrArg some (by kernel_rfl))⟩
  t0 := Try.underlying0
  a0 := Try.isAgg0
  z0 := Try.sizeOf0
  v0 := Try.zeroValue0
  t3 := Try.underlying3
  a3 := Try.isAgg3
  z3 := Try.sizeOf3
  v3 := Try.zeroValue3
  t4 := Try.underlying4
  a4 := Try.isAgg4
  z4 := Try.sizeOf4
  v4 := Try.zeroValue4
  t5 := Try.underlying5
  a5 := Try.isAgg5
  z5 := Try.sizeOf5
  v5 := Try.zeroValue5
  t9 := Try.underlying9
  a9 := Try.isAgg9
  z9 := Try.sizeOf9
  v9 := Try.zeroValue9
  t22 := Try.underlying57
  a22 := Try.isAgg57
  z22 := Try.sizeOf57
  v22 := Try.zeroValue57
  t25 := Try.underlying118
  a25 := Try.isAgg118
  z25 := Try.sizeOf118
  v25 := Try.zeroValue118
  t39 := Try.underlying158
  a39 := Try.isAgg158
  z39 := Try.sizeOf158
  v39 := Try.zeroValue158
  t45 := Try.underlying189
  a45 := Try.isAgg189
  z45 := Try.sizeOf189
  v45 := Try.zeroValue189
  t46 := Try.underlying190
  a46 := Try.isAgg190
  z46 := Try.sizeOf190
  v46 := Try.zeroValue190
  t50 := Try.underlying194
  a50 := Try.isAgg194
  z50 := Try.sizeOf194
  v50 := Try.zeroValue194
  t53 := Try.underlying197
  a53 := Try.isAgg197
  z53 := Try.sizeOf197
  v53 := Try.zeroValue197
  t55 := Try.underlying199
  a55 := Try.isAgg199
  z55 := Try.sizeOf199
  v55 := Try.zeroValue199
  t66 := Try.underlying212
  a66 := Try.isAgg212
  z66 := Try.sizeOf212
  v66 := Try.zeroValue212
  t70 := Try.underlying216
  a70 := Try.isAgg216
  z70 := Try.sizeOf216
  v70 := Try.zeroValue216
  t76 := Try.underlying220
  a76 := Try.isAgg220
  z76 := Try.sizeOf220
  v76 := Try.zeroValue220
  t77 := Try.underlying60
  a77 := Try.isAgg60
  z77 := Try.sizeOf60
  v77 := Try.zeroValue60 }
end Go.Proofs
namespace Go.Proofs.Ytkboefmkfpnpjaa
open Go Go.RowKit Go.Proofs

/-! ### Plain -/
def lvRow (lv : List Int) (a : Int) : Nat → List Int
  | 0 => []
  | k + 1 => (if lv[k]? = some a then [(k : Int)] else []) ++ lvRow lv a k
def lvRows (lv : List Int) : Nat → List Int
  | 0 => []
  | m + 1 => lvRows lv m ++ lvRow lv (m : Int) lv.length
def lvoR (l : List Actn) : List Int := lvRows (lvlR l) (lvlR l).length
theorem lvRow_mem (lv : List Int) (a : Int) (x : Int) : ∀ k, x ∈ lvRow lv a k ↔ ∃ i : Nat, i < k ∧ x = i ∧ lv[i]? = some a
  | 0 => by simp [lvRow]
  | k + 1 => by
    rw [lvRow, List.mem_append, lvRow_mem lv a x k]
    constructor
    · rintro (h | ⟨i, h1, h2, h3⟩)
      · split at h
        · rename_i hk
          simp at h
          exact ⟨k, Nat.lt_succ_self _, h, hk⟩
        · simp at h
      · exact ⟨i, by omega, h2, h3⟩
    · rintro ⟨i, h1, h2, h3⟩
      by_cases hi : i = k
      · subst hi
        left; rw [if_pos h3]; simp [h2]
      · exact .inr ⟨i, by omega, h2, h3⟩
theorem lvRows_mem (lv : List Int) (x : Int) : ∀ m, x ∈ lvRows lv m ↔ ∃ i : Nat, i < lv.length ∧ x = i ∧ ∃ a : Nat, a < m ∧ lv[i]? = some (a : Int)
  | 0 => by simp [lvRows]
  | m + 1 => by
    rw [lvRows, List.mem_append, lvRows_mem lv x m, lvRow_mem]
    constructor
    · rintro (⟨i, h1, h2, a, h3, h4⟩ | ⟨i, h1, h2, h3⟩)
      · exact ⟨i, h1, h2, a, by omega, h4⟩
      · exact ⟨i, h1, h2, m, Nat.lt_succ_self _, h3⟩
    · rintro ⟨i, h1, h2, a, h3, h4⟩
      by_cases ha : a = m
      · subst ha; exact .inr ⟨i, h1, h2, h4⟩
      · exact .inl ⟨i, h1, h2, a, by omega, h4⟩
def lvl0 (lv : List Int) (x : Int) : Int := lv.getD x.toNat 0
/-- Which number comes first. -/
def lvLt (lv : List Int) (x y : Int) : Prop := lvl0 lv x < lvl0 lv y ∨ (lvl0 lv x = lvl0 lv y ∧ y < x)
theorem lvRow_lt (lv : List Int) (a : Int) : ∀ k, (lvRow lv a k).Pairwise (lvLt lv)
  | 0 => List.Pairwise.nil
  | k + 1 => by
    rw [lvRow]
    split
    · rename_i hk
      rw [List.singleton_append, List.pairwise_cons]
      refine ⟨fun y hy => ?_, lvRow_lt lv a k⟩
      obtain ⟨i, h1, rfl, h3⟩ := (lvRow_mem lv a y k).1 hy
      right
      unfold lvl0
      simp only [Int.toNat_natCast]
      rw [getD_of hk, getD_of h3]
      exact ⟨rfl, by omega⟩
    · exact lvRow_lt lv a k
theorem lvRows_lt (lv : List Int) : ∀ m, (lvRows lv m).Pairwise (lvLt lv)
  | 0 => List.Pairwise.nil
  | m + 1 => by
    rw [lvRows, List.pairwise_append]
    refine ⟨lvRows_lt lv m, lvRow_lt lv _ _, fun x hx y hy => ?_⟩
    obtain ⟨i, _, rfl, a, h3, h4⟩ := (lvRows_mem lv x m).1 hx
    obtain ⟨j, _, rfl, h5⟩ := (lvRow_mem lv _ y _).1 hy
    left
    unfold lvl0
    simp only [Int.toNat_natCast]
    rw [getD_of h4, getD_of h5]
    omega
theorem sorted_unique {α : Type} {lt : α → α → Prop} (hi : ∀ x, ¬ lt x x) (ht : ∀ x y z, lt x y → lt y z → lt x z) : ∀ {a b : List α}, a.Pairwise lt → b.Pairwise lt → (∀ x, x ∈ a ↔ x ∈ b) → a = b
  | [], [], _, _, _ => rfl
  | [], y :: b, _, _, h => by have := (h y).2 (by simp); simp at this
  | x :: a, [], _, _, h => by have := (h x).1 (by simp); simp at this
  | x :: a, y :: b, ha, hb, h => by
    rw [List.pairwise_cons] at ha hb
    have hxy : x = y := by
      have h1 : x = y ∨ x ∈ b := List.mem_cons.1 ((h x).1 (by simp))
      have h2 : y = x ∨ y ∈ a := List.mem_cons.1 ((h y).2 (by simp))
      rcases h1 with h1 | h1
      · exact h1
      · rcases h2 with h2 | h2
        · exact h2.symm
        · exact absurd (ht _ _ _ (hb.1 x h1) (ha.1 y h2)) (hi _)
    subst hxy
    rw [sorted_unique hi ht ha.2 hb.2 fun z => ?_]
    constructor
    · intro hz
      rcases List.mem_cons.1 ((h z).1 (by simp [hz])) with e | hz'
      · subst e; exact absurd (ha.1 _ hz) (hi _)
      · exact hz'
    · intro hz
      rcases List.mem_cons.1 ((h z).2 (by simp [hz])) with e | hz'
      · subst e; exact absurd (hb.1 _ hz) (hi _)
      · exact hz'
theorem lvlR_in (l : List Actn) : ∀ a ∈ lvlR l, 0 ≤ a ∧ a < ((lvlR l).length : Int) := by
  intro a ha
  rcases h : actsOk l with _ | _
  · rw [lvlR_no h] at ha; simp at ha
  · rw [lvlR_yes h] at ha ⊢
    have := lvlTo_in l l.length a ha
    rw [lvlTo_length]; exact this
/-- Whatever holds every number once and is in order is the order by levels. -/
theorem lvoR_unique (l : List Actn) {m : List Int} (hm : ∀ x, x ∈ m ↔ ∃ i : Nat, i < (lvlR l).length ∧ x = i) (hs : m.Pairwise (lvLt (lvlR l))) : m = lvoR l := by
  refine sorted_unique (lt := lvLt (lvlR l)) (fun x h => ?_) (fun x y z h1 h2 => ?_) hs (lvRows_lt _ _) (fun x => ?_)
  · unfold lvLt at h; omega
  · unfold lvLt at *; omega
  · rw [hm, lvoR, lvRows_mem]
    constructor
    · rintro ⟨i, h1, h2⟩
      obtain ⟨a, ha⟩ := getElem?_some_of_lt h1
      have := lvlR_in l a (List.mem_of_getElem? ha)
      exact ⟨i, h1, h2, a.toNat, by omega, by rw [ha]; congr 1; omega⟩
    · rintro ⟨i, h1, h2, _⟩
      exact ⟨i, h1, h2⟩
theorem lvRow_len (lv : List Int) (a : Int) : ∀ k, (lvRow lv a k).length ≤ k
  | 0 => Nat.le_refl _
  | k + 1 => by have := lvRow_len lv a k; rw [lvRow, List.length_append]; split <;> simp <;> omega
theorem lvRows_len (lv : List Int) : ∀ m, (lvRows lv m).length ≤ m * lv.length
  | 0 => by simp [lvRows]
  | m + 1 => by
    have h1 := lvRows_len lv m
    have h2 := lvRow_len lv (m : Int) lv.length
    rw [lvRows, List.length_append, Nat.succ_mul]; omega
theorem lvoR_le (l : List Actn) : (lvoR l).length ≤ 100 := by
  have h1 := lvRows_len (lvlR l) (lvlR l).length
  have h2 := lvlR_le l
  have h3 : (lvlR l).length * (lvlR l).length ≤ 10 * 10 := Nat.mul_le_mul h2 h2
  show (lvRows _ _).length ≤ _
  omega
theorem own_emptyI (e lo : Nat) (w : World) (g : Nat) (hg : g = w.heap.size) (hlo : lo ≤ w.heap.size) : Own encI e 1 lo (w.alloc (.cells #[] e)) (.slice (some ⟨g, 0, none⟩) 0 0) [] := Own.lit hg hlo rfl rfl encI_length (Nat.zero_le _)
theorem oneIs' (l : List Int) : ∀ u ∈ l.flatMap encI, u.oneCell' = true := by
  intro u hu
  obtain ⟨x, _, h⟩ := List.mem_flatMap.1 hu
  exact oneI x u h
set_option maxRecDepth 100000 in
set_option maxHeartbeats 2000000 in
theorem sLevelOrder_any (l : List Actn) (v : Value) (w : World) (h : SL (RF Actn.enc) 4 w v l) :
    Calls Try.prog 137 #[v] w fun e w' => ∃ v', e = .returned v' ∧ Up w w' ∧ Own encI 3 1 w.heap.size w' v' (lvoR l) := by
  have H := Lib.hid h; clear h
  have ks := fun w v h => sLevelsOf_any l v w h
  have hlen := lvlR_le l
  rw [show lvoR l = lvRows (lvlR l) (lvlR l).length from rfl]
  generalize lvlR l = lv at ks hlen ⊢
  go_enter Try.func137, Try.ntmps137
  go_wp2_with fail
  refine (ks _ _ (H.out.up (by repeat (first | (with_reducible exact Ext.refl _) | (with_reducible refine Ext.up ?_ _) | (with_reducible refine Ext.alloc ?_ _) | (with_reducible refine Ext.drew ?_) | (with_reducible refine Ext.setRow ?_ (by first | exact LeS.le | exact LeS.add _ | (simp; done) | (simp; omega)) _) | (with_reducible refine Ext.setCell ?_ (by first | exact LeS.le | exact LeS.add _ | (simp; done) | (simp; omega)) _))))).mono ?_; rintro e w' ⟨y, rfl, ⟨z1, rfl⟩, oy⟩
  obtain ⟨p, c, rfl, _, _⟩ := (oy.sl encI_length).openc
  have h0 := Lib.hid (Own.up (own_emptyI 3 w.heap.size w w.heap.size rfl (Nat.le_refl _)) z1.ext)
  have OY := Lib.hid (Own.lo (lo' := w.heap.size) oy (by simp))
  have A0 := Lib.hid (Own.apartU (hi := w.heap.size + 1) oy (u := .slice (some ⟨w.heap.size, 0, none⟩) 0 0) (fun k hk => Nat.lt_succ_of_le (Nat.le_of_eq (Eq.symm (by simpa [Value.ownBlock] using hk : w.heap.size = k)))) (by simp)).symm
  clear oy
  go_wp2_with fail
  go_loopw [3, 5, 6] (fun s3 s5 _ wr => ∃ (m : Nat), s5 = .int .i64 m ∧ m ≤ lv.length ∧ Up w wr ∧ Own encI 3 1 w.heap.size wr s3 (lvRows lv m) ∧ Own encI 3 1 w.heap.size wr (.slice p lv.length c) lv ∧ Apart s3 (.slice p lv.length c)) (fun _ s5 _ _ => lv.length - (intOf s5).toNat)
  case atStart => exact ⟨0, rfl, Nat.zero_le _, (.of (by repeat (first | (with_reducible exact Ext.refl _) | (with_reducible refine Ext.up ?_ _) | (with_reducible refine Ext.alloc ?_ _) | (with_reducible refine Ext.drew ?_) | (with_reducible refine Ext.setRow ?_ (by first | exact LeS.le | exact LeS.add _ | (simp; done) | (simp; omega)) _) | (with_reducible refine Ext.setCell ?_ (by first | exact LeS.le | exact LeS.add _ | (simp; done) | (simp; omega)) _)))), h0.out, OY.out, A0.out⟩
  case round =>
    obtain ⟨m, rfl, hm, ⟨z, rfl⟩, hown, hol, hap⟩ := hrel
    have HO := Lib.hid hown; have HL := Lib.hid hol; have HA := Lib.hid hap; clear hown hol hap
    by_cases hlt : m < lv.length
    · have hml : (lvRows lv m).length ≤ 100 := by
        have h1 := lvRows_len lv m
        have h3 : m * lv.length ≤ 10 * 10 := Nat.mul_le_mul (by omega) hlen
        omega
      go_wp2_with fail
      go_loopw [3, 6] (fun s3 s6 wr => ∃ (k : Nat) (done : List Int), s6 = .int .i64 ((k : Int) - 1) ∧ k ≤ lv.length ∧ done ++ lvRow lv m k = lvRow lv m lv.length ∧ Up w wr ∧ Own encI 3 1 w.heap.size wr s3 (lvRows lv m ++ done) ∧ Own encI 3 1 w.heap.size wr (.slice p lv.length c) lv ∧ Apart s3 (.slice p lv.length c)) (fun _ s6 _ => ((intOf s6) + 1).toNat)
      case atStart => exact ⟨lv.length, [], rfl, Nat.le_refl _, rfl, ⟨z, rfl⟩, by rw [List.append_nil]; exact HO.out, HL.out, HA.out⟩
      case round =>
        obtain ⟨k, done, rfl, hk, hd, ⟨z2, rfl⟩, hown, hol, hap⟩ := hrel
        have HO2 := Lib.hid hown; have HL2 := Lib.hid hol; have HA2 := Lib.hid hap; clear hown hol hap
        have hdl : done.length ≤ 10 := by
          have h1 := congrArg List.length hd
          have h2 := lvRow_len lv (m : Int) lv.length
          rw [List.length_append] at h1; omega
        have Hd := Lib.hid hd; clear hd
        by_cases hk0 : k = 0
        · subst hk0
          have hneg : decide ((0 : Int) ≤ ((0 : Nat) : Int) - 1) = false := rfl
          have e : lvRows lv (m + 1) = lvRows lv m ++ done := by
            have := Hd.out
            rw [lvRow, List.append_nil] at this
            rw [lvRows, this]
          have He := Lib.hid e; clear e
          go_wp2_with fail
          go_roundw
          case rel => exact ⟨m + 1, by go_num, by omega, ⟨z2, rfl⟩, by rw [He.out]; exact HO2.out, HL2.out, HA2.out⟩
          case measure => simp [intOf] <;> omega
        · obtain ⟨k', rfl⟩ : ∃ k', k = k' + 1 := ⟨k - 1, by omega⟩
          obtain ⟨b, hb⟩ := getElem?_some_of_lt (l := lv) (k := k') (by omega)
          obtain ⟨p9, c9, e9, _, hc9⟩ := (HL2.out.sl encI_length).open
          cases e9
          obtain ⟨g, off, hp, hL, hcc⟩ := hc9 k' b hb
          subst hp
          have cb : z2.val.cell? ⟨g, off + k', none⟩ = some (.int .i64 b) := by have := hcc 0 _ rfl; simpa using this
          rw [show (((k' + 1 : Nat) : Int) - 1) = (k' : Int) from by omega]
          have hge : decide ((0 : Int) ≤ (k' : Int)) = true := by simp
          have k0 : (0 : Int) ≤ (k' : Int) := by omega
          have kl : (k' : Int) < (lv.length : Int) := by omega
          clear hcc hc9
          rcases eq_cases b (m : Int) with ⟨h1, h1'⟩ | ⟨h1, h1'⟩
          · have hd2 : (done ++ [(k' : Int)]) ++ lvRow lv m k' = lvRow lv m lv.length := by
              rw [← Hd.out, lvRow, if_pos (by rw [hb, h1])]; simp
            have Hd2 := Lib.hid hd2
            clear hd2 h1 hb
            go_wp2_with (at_builtin; refine wpList_pushG fI rfl (.tmp 29) (.tmp 31) rfl encI encI_length w (lo := w.heap.size) [(k' : Int)] (lvRows lv m ++ done) rfl (HO2.out.up (by repeat (first | (with_reducible exact Ext.refl _) | (with_reducible refine Ext.up ?_ _) | (with_reducible refine Ext.alloc ?_ _) | (with_reducible refine Ext.drew ?_) | (with_reducible refine Ext.setRow ?_ (by first | exact LeS.le | exact LeS.add _ | (simp; done) | (simp; omega)) _) | (with_reducible refine Ext.setCell ?_ (by first | exact LeS.le | exact LeS.add _ | (simp; done) | (simp; omega)) _)))) (by repeat (first | (with_reducible exact Ext.refl _) | (with_reducible refine Ext.up ?_ _) | (with_reducible refine Ext.alloc ?_ _) | (with_reducible refine Ext.drew ?_) | (with_reducible refine Ext.setRow ?_ (by first | exact LeS.le | exact LeS.add _ | (simp; done) | (simp; omega)) _) | (with_reducible refine Ext.setCell ?_ (by first | exact LeS.le | exact LeS.add _ | (simp; done) | (simp; omega)) _))) (Nat.le_refl _) LeS.le rfl (by rfl) (by go_simp) rfl (oneIs' _) (by simp; omega) (by simp; omega) ?_; intro v7 z7 o7 g7 b7; have N7 := Lib.hid (Own.keep (HL2.out.up ((Ext.refl _).alloc _)) g7 HA2.out.symm); have B7 := Lib.hid (Apart.grown (w := World.alloc _ _) (HL2.out.up ((Ext.refl _).alloc _)) HA2.out.symm (Nat.le_refl _) b7).symm; clear g7 b7)
            have HO7 := Lib.hid o7; clear o7
            go_wp2_with fail
            go_roundw
            case rel => exact ⟨k', done ++ [(k' : Int)], by go_num, by omega, Hd2.out, ⟨z7, rfl⟩, by rw [← List.append_assoc]; exact HO7.out, N7.out, B7.out⟩
            case measure => simp [intOf] <;> omega
          · have hd2 : done ++ lvRow lv m k' = lvRow lv m lv.length := by
              rw [← Hd.out, lvRow, if_neg (by rw [hb]; intro e; cases e; exact h1 rfl)]; rfl
            have Hd2 := Lib.hid hd2
            clear hd2 h1 hb
            go_wp2_with fail
            go_roundw
            case rel => exact ⟨k', done, by go_num, by omega, Hd2.out, ⟨z2, rfl⟩, HO2.out, HL2.out, HA2.out⟩
            case measure => simp [intOf] <;> omega
    · obtain rfl : m = lv.length := by omega
      go_wp2_with fail
      go_ret
      exact ⟨_, rfl, ⟨z, rfl⟩, HO.out⟩
end Go.Proofs.Ytkboefmkfpnpjaa
