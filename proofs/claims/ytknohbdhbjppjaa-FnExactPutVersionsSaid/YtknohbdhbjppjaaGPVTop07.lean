/- Walks: FnExactLevelsOf: levels of actions. The layings of slices.SortFunc of the kit's shelf at this program: printed by the kit's lay-plain.mjs (wip/laysort.sh), a block a seat. Plain laws: sums of blocks. Plain laws: the root of a store. Walks: blocks. -/
import Derived.Test.YtknohbdhbjppjaaGPVTop06
import Derived.Shelf.SlSortCmp.Whole1
import Derived.Shelf.SlSortCmp.WholeK
import Derived.Shelf.SlSortCmp.NoneTotal
import Derived.Ground.SlsfProg
import Derived.Test.YtknohbdhbjppjaaProg
import Derived.Test.YtknohbdhbjppjaaGPVTop03
import Derived.Deep.AppendLies
set_option linter.unusedSimpArgs false
set_option linter.unusedVariables false
namespace Go.Proofs.Ytknohbdhbjppjaa
open Go Go.RowKit Go.Proofs

theorem conflict_ok {x y : Actn} (hx : x.ok = true) (hy : y.ok = true) : conflict x y = conf x y := by simp [conflict, hx, hy]
theorem max_lt (a b : Int) : max a b = if a < b then b else a := by split <;> omega
def lvlR (l : List Actn) : List Int := if actsOk l = true then lvlTo l l.length else []
theorem lvlR_no {l : List Actn} (h : actsOk l = false) : lvlR l = [] := by unfold lvlR; rw [h]; rfl
theorem lvlR_yes {l : List Actn} (h : actsOk l = true) : lvlR l = lvlTo l l.length := by unfold lvlR; rw [h]; rfl
theorem lvlR_le (l : List Actn) : (lvlR l).length ≤ 10 := by
  rcases h : actsOk l with _ | _
  · rw [lvlR_no h]; simp
  · rw [lvlR_yes h, lvlTo_length]; exact actsOk_len h
set_option maxHeartbeats 4000000 in
theorem iLevelsOf_any (l : List Actn) (v : Value) (w : World) (h : SL (RF Actn.enc) 4 w v l) :
    Calls Try.prog 117 #[v] w fun e w' => ∃ v', e = .returned v' ∧ Up w w' ∧ Own encI 3 1 w.heap.size w' v' (lvlR l) := by
  have Hl := Lib.hid h
  obtain ⟨pl, cl, hvl, hll, hcl⟩ := h.open
  obtain ⟨_, cl', hvl', _, hlc⟩ := h.openc
  rw [hvl] at hvl'; cases hvl'
  subst hvl
  clear h
  rcases ha : actsOk l with _ | _
  · rw [lvlR_no ha]
    go_enter Try.func117, Try.ntmps117
    go_wp2_with (go_at_call 147; refine (iActionsValid_any l _ _ Hl.out).mono ?_; rintro e w' ⟨rfl, z1, rfl⟩)
    go_ret
    exact ⟨_, rfl, (.of (by repeat (first | exact Ext.refl _ | refine Ext.up ?_ _ | refine Ext.alloc ?_ _ | refine Ext.drew ?_ | refine Ext.setRow ?_ (by first | (dsimp only; omega) | exact LeS.le | exact LeS.add _ | (simp; done) | (simp; omega)) _ | refine Ext.setCell ?_ (by first | (dsimp only; omega) | exact LeS.le | exact LeS.add _ | (simp; done) | (simp; omega)) _))), Own.nil _ _ _ _ _⟩
  rw [lvlR_yes ha]
  have hl10 := actsOk_len ha
  have Ha := Lib.hid ha
  go_enter Try.func117, Try.ntmps117
  go_wp2_with (go_at_call 147; refine (iActionsValid_any l _ _ Hl.out).mono ?_; rintro e w' ⟨rfl, z1, rfl⟩)
  go_loopw [3, 4, 5, 6, 7, 8, 14] (fun s3 _ _ _ _ _ s14 wr => ∃ k : Nat, s14 = .int .i64 k ∧ k ≤ l.length ∧ Up w wr ∧ Own encI 3 1 w.heap.size wr s3 (lvlTo l k)) (fun _ _ _ _ _ _ s14 _ => l.length - (intOf s14).toNat)
  case atStart => exact ⟨0, rfl, Nat.zero_le _, (.of (by repeat (first | exact Ext.refl _ | refine Ext.up ?_ _ | refine Ext.alloc ?_ _ | refine Ext.drew ?_ | refine Ext.setRow ?_ (by first | (dsimp only; omega) | exact LeS.le | exact LeS.add _ | (simp; done) | (simp; omega)) _ | refine Ext.setCell ?_ (by first | (dsimp only; omega) | exact LeS.le | exact LeS.add _ | (simp; done) | (simp; omega)) _))), Own.nil _ _ _ _ _⟩
  case round =>
    obtain ⟨k, rfl, hk, ⟨z, rfl⟩, hown⟩ := hrel
    by_cases hlt : k < l.length
    · obtain ⟨y, hyk⟩ := getElem?_some_of_lt hlt
      obtain ⟨b, off, hp, hb, _⟩ := hcl k y hyk
      obtain ⟨y0, y1, y2, y3⟩ := acell hcl hp hyk
      subst hp
      have Hy := Lib.hid hyk; have Hcl := Lib.hid hcl; have Hown := Lib.hid hown
      have hkc : (k : Int) ≤ (cl : Int) := by omega
      have hk0 : (0 : Int) ≤ (k : Int) := by omega
      clear hyk hcl hown
      go_wp2_with fail
      go_loopw [6, 7, 8, 23] (fun s6 _ _ s23 wr => ∃ j : Nat, s23 = .int .i64 j ∧ s6 = .int .i64 (lvlAt l (lvlTo l k) k j) ∧ j ≤ k ∧ Up (z.val.alloc (.cells #[.int .i64 y.kind, .int .i64 y.src, .int .i64 y.dst, .int .i64 y.amt] 86)) wr) (fun _ _ _ s23 _ => k - (intOf s23).toNat)
      case atStart => exact ⟨0, rfl, rfl, Nat.zero_le _, (.of (by repeat (first | exact Ext.refl _ | refine Ext.up ?_ _ | refine Ext.alloc ?_ _ | refine Ext.drew ?_ | refine Ext.setRow ?_ (by first | (dsimp only; omega) | exact LeS.le | exact LeS.add _ | (simp; done) | (simp; omega)) _ | refine Ext.setCell ?_ (by first | (dsimp only; omega) | exact LeS.le | exact LeS.add _ | (simp; done) | (simp; omega)) _)))⟩
      case round =>
        obtain ⟨j, rfl, rfl, hj, ⟨z2, rfl⟩⟩ := hrel
        by_cases hjt : j < k
        · obtain ⟨x, hxj⟩ := getElem?_some_of_lt (show j < l.length by omega)
          obtain ⟨x0, x1, x2, x3⟩ := acell Hcl.out rfl hxj
          obtain ⟨o, ho⟩ := getElem?_some_of_lt (l := lvlTo l k) (k := j) (by rw [lvlTo_length]; exact hjt)
          obtain ⟨o0, o1⟩ := lvlTo_in l k o (List.mem_of_getElem? ho)
          obtain ⟨po, co, rfl, _, hco⟩ := (Hown.out.sl encI_length).open
          obtain ⟨g, offg, hpo, hLg, hcg⟩ := hco j o ho
          subst hpo
          have hg : z.val.cell? ⟨g, offg + j, none⟩ = some (.int .i64 o) := by have := hcg 0 _ rfl; simpa using this
          have hok1 := actsOk_at Ha.out Hy.out
          have hok2 := actsOk_at Ha.out hxj
          have hlen : (lvlTo l k).length = k := lvlTo_length l k
          have hjl : (j : Int) < ((lvlTo l k).length : Int) := by omega
          have Hlen := Lib.hid hlen
          have Hk1 := Lib.hid hok1; have Hk2 := Lib.hid hok2; have Hx := Lib.hid hxj; have Ho := Lib.hid ho
          clear hok1 hok2 hxj ho hco hcg hlen
          rcases hcf : conf y x with _ | _
          · have Hn := Lib.hid (lvlAt_no Hx.out Hy.out Ho.out ((conf_comm x y).trans hcf))
            go_wp2_with (go_at_call 127; refine ((hcf ▸ conflicts_any y x _ Hk1.out Hk2.out)).mono ?_; rintro e w' ⟨rfl, z3, rfl⟩)
            go_roundw
            case rel => exact ⟨j + 1, by go_num, by rw [Hn.out], by omega, (.of (by repeat (first | exact Ext.refl _ | refine Ext.up ?_ _ | refine Ext.alloc ?_ _ | refine Ext.drew ?_ | refine Ext.setRow ?_ (by first | (dsimp only; omega) | exact LeS.le | exact LeS.add _ | (simp; done) | (simp; omega)) _ | refine Ext.setCell ?_ (by first | (dsimp only; omega) | exact LeS.le | exact LeS.add _ | (simp; done) | (simp; omega)) _)))⟩
            case measure => simp [intOf]; omega
          · have Hn := Lib.hid (lvlAt_yes Hx.out Hy.out Ho.out ((conf_comm x y).trans hcf))
            go_wp2_with (go_at_call 127; refine ((hcf ▸ conflicts_any y x _ Hk1.out Hk2.out)).mono ?_; rintro e w' ⟨rfl, z3, rfl⟩)
            go_roundw
            case rel => exact ⟨j + 1, by go_num, by rw [Hn.out, max_lt], by omega, (.of (by repeat (first | exact Ext.refl _ | refine Ext.up ?_ _ | refine Ext.alloc ?_ _ | refine Ext.drew ?_ | refine Ext.setRow ?_ (by first | (dsimp only; omega) | exact LeS.le | exact LeS.add _ | (simp; done) | (simp; omega)) _ | refine Ext.setCell ?_ (by first | (dsimp only; omega) | exact LeS.le | exact LeS.add _ | (simp; done) | (simp; omega)) _)))⟩
            case measure => simp [intOf]; omega
        · obtain rfl : j = k := by omega
          have hle : (lvlTo l j).length ≤ 10 := by rw [lvlTo_length]; omega
          go_wp2_with (at_builtin; refine wpList_push1 fI rfl (.tmp 39) (.tmp 41) rfl encI w (lvlAt l (lvlTo l j) j j) (lvlTo l j) rfl (Hown.out.up (by repeat (first | exact Ext.refl _ | refine Ext.up ?_ _ | refine Ext.alloc ?_ _ | refine Ext.drew ?_ | refine Ext.setRow ?_ (by first | (dsimp only; omega) | exact LeS.le | exact LeS.add _ | (simp; done) | (simp; omega)) _ | refine Ext.setCell ?_ (by first | (dsimp only; omega) | exact LeS.le | exact LeS.add _ | (simp; done) | (simp; omega)) _))) (by repeat (first | exact Ext.refl _ | refine Ext.up ?_ _ | refine Ext.alloc ?_ _ | refine Ext.drew ?_ | refine Ext.setRow ?_ (by first | (dsimp only; omega) | exact LeS.le | exact LeS.add _ | (simp; done) | (simp; omega)) _ | refine Ext.setCell ?_ (by first | (dsimp only; omega) | exact LeS.le | exact LeS.add _ | (simp; done) | (simp; omega)) _)) rfl (by go_simp) rfl rfl (oneI _) (by omega) (by omega) ?_; intro v1 z4 hown1)
          have hown2 := Lib.hid hown1; clear hown1
          go_wp2_with fail
          go_roundw
          case rel => exact ⟨j + 1, by go_num, by omega, (.of (by repeat (first | exact Ext.refl _ | refine Ext.up ?_ _ | refine Ext.alloc ?_ _ | refine Ext.drew ?_ | refine Ext.setRow ?_ (by first | (dsimp only; omega) | exact LeS.le | exact LeS.add _ | (simp; done) | (simp; omega)) _ | refine Ext.setCell ?_ (by first | (dsimp only; omega) | exact LeS.le | exact LeS.add _ | (simp; done) | (simp; omega)) _))), hown2.out⟩
          case measure => simp [intOf]; omega
    · go_wp2_with fail
      go_ret
      obtain rfl : k = l.length := by omega
      exact ⟨_, rfl, ⟨z, rfl⟩, hown⟩
set_option maxHeartbeats 4000000 in
theorem sLevelsOf_any (l : List Actn) (v : Value) (w : World) (h : SL (RF Actn.enc) 4 w v l) :
    Calls Try.prog 116 #[v] w fun e w' => ∃ v', e = .returned v' ∧ Up w w' ∧ Own encI 3 1 w.heap.size w' v' (lvlR l) := by
  have Hl := Lib.hid h
  obtain ⟨pl, cl, hvl, hll, hcl⟩ := h.open
  subst hvl
  clear h
  rcases ha : actsOk l with _ | _
  · rw [lvlR_no ha]
    by_cases h0 : 0 < l.length
    · have h0' : decide ((0 : Int) < (l.length : Int)) = true := by simpa using h0
      go_enter Try.func116, Try.ntmps116
      go_wp2_with fail
      refine wp_loop_rounds 1 ?_; rw [rounds_succ]
      go_wp2_with (go_at_call 143; refine (sActionsValid_any l _ _ (Hl.out.up (by repeat (first | exact Ext.refl _ | refine Ext.up ?_ _ | refine Ext.alloc ?_ _ | refine Ext.drew ?_ | refine Ext.setRow ?_ (by first | (dsimp only; omega) | exact LeS.le | exact LeS.add _ | (simp; done) | (simp; omega)) _ | refine Ext.setCell ?_ (by first | (dsimp only; omega) | exact LeS.le | exact LeS.add _ | (simp; done) | (simp; omega)) _)))).mono ?_; rintro e w' ⟨rfl, z1, rfl⟩)
      go_ret
      exact ⟨_, rfl, (.of (by repeat (first | exact Ext.refl _ | refine Ext.up ?_ _ | refine Ext.alloc ?_ _ | refine Ext.drew ?_ | refine Ext.setRow ?_ (by first | (dsimp only; omega) | exact LeS.le | exact LeS.add _ | (simp; done) | (simp; omega)) _ | refine Ext.setCell ?_ (by first | (dsimp only; omega) | exact LeS.le | exact LeS.add _ | (simp; done) | (simp; omega)) _))), (Own.lit rfl LeS.le rfl rfl encI_length (Nat.zero_le _)).up ((Ext.refl _).up _)⟩
    · have h0' : decide ((0 : Int) < (l.length : Int)) = false := by simpa using h0
      go_enter Try.func116, Try.ntmps116
      go_wp2_with fail
      refine wp_loop_rounds 1 ?_; rw [rounds_succ]
      go_wp2_with fail
      go_ret
      exact ⟨_, rfl, (.of (by repeat (first | exact Ext.refl _ | refine Ext.up ?_ _ | refine Ext.alloc ?_ _ | refine Ext.drew ?_ | refine Ext.setRow ?_ (by first | (dsimp only; omega) | exact LeS.le | exact LeS.add _ | (simp; done) | (simp; omega)) _ | refine Ext.setCell ?_ (by first | (dsimp only; omega) | exact LeS.le | exact LeS.add _ | (simp; done) | (simp; omega)) _))), Own.lit rfl LeS.le rfl rfl encI_length (Nat.zero_le _)⟩
  rw [lvlR_yes ha]
  have hl10 := actsOk_len ha
  have Ha := Lib.hid ha
  go_enter Try.func116, Try.ntmps116
  go_wp2_with fail
  go_loopw [3, 4, 5, 6] (fun s3 s4 _ _ wr => ∃ k : Nat, s4 = .int .i64 k ∧ k ≤ l.length ∧ Up w wr ∧ Own encI 3 1 w.heap.size wr s3 (lvlTo l k)) (fun _ s4 _ _ _ => l.length - (intOf s4).toNat)
  case atStart => exact ⟨0, rfl, Nat.zero_le _, (.of (by repeat (first | exact Ext.refl _ | refine Ext.up ?_ _ | refine Ext.alloc ?_ _ | refine Ext.drew ?_ | refine Ext.setRow ?_ (by first | (dsimp only; omega) | exact LeS.le | exact LeS.add _ | (simp; done) | (simp; omega)) _ | refine Ext.setCell ?_ (by first | (dsimp only; omega) | exact LeS.le | exact LeS.add _ | (simp; done) | (simp; omega)) _))), Own.lit rfl LeS.le rfl rfl encI_length (Nat.zero_le _)⟩
  case round =>
    obtain ⟨k, rfl, hk, ⟨z, rfl⟩, hown⟩ := hrel
    by_cases hlt : k < l.length
    · obtain ⟨y, hyk⟩ := getElem?_some_of_lt hlt
      obtain ⟨b, off, hp, hb, _⟩ := hcl k y hyk
      obtain ⟨y0, y1, y2, y3⟩ := acell hcl hp hyk
      subst hp
      have Hy := Lib.hid hyk; have Hcl := Lib.hid hcl; have Hown := Lib.hid hown
      have hk0 : (0 : Int) ≤ (k : Int) := by omega
      have hk1 : (k : Int) < l.length := by omega
      clear hyk hcl hown
      go_wp2_with (go_at_call 143; refine (sActionsValid_any l _ _ (Hl.out.up (by repeat (first | exact Ext.refl _ | refine Ext.up ?_ _ | refine Ext.alloc ?_ _ | refine Ext.drew ?_ | refine Ext.setRow ?_ (by first | (dsimp only; omega) | exact LeS.le | exact LeS.add _ | (simp; done) | (simp; omega)) _ | refine Ext.setCell ?_ (by first | (dsimp only; omega) | exact LeS.le | exact LeS.add _ | (simp; done) | (simp; omega)) _)))).mono ?_; rintro e w' ⟨rfl, z1, rfl⟩)
      go_loopw [5, 6] (fun s5 s6 wr => ∃ j : Nat, s6 = .int .i64 j ∧ s5 = .int .i64 (lvlAt l (lvlTo l k) k j) ∧ j ≤ k ∧ Up z1.val wr) (fun _ s6 _ => k - (intOf s6).toNat)
      case atStart => exact ⟨0, rfl, rfl, Nat.zero_le _, (.of (by repeat (first | exact Ext.refl _ | refine Ext.up ?_ _ | refine Ext.alloc ?_ _ | refine Ext.drew ?_ | refine Ext.setRow ?_ (by first | (dsimp only; omega) | exact LeS.le | exact LeS.add _ | (simp; done) | (simp; omega)) _ | refine Ext.setCell ?_ (by first | (dsimp only; omega) | exact LeS.le | exact LeS.add _ | (simp; done) | (simp; omega)) _)))⟩
      case round =>
        obtain ⟨j, rfl, rfl, hj, ⟨z2, rfl⟩⟩ := hrel
        by_cases hjt : j < k
        · obtain ⟨x, hxj⟩ := getElem?_some_of_lt (show j < l.length by omega)
          obtain ⟨x0, x1, x2, x3⟩ := acell Hcl.out rfl hxj
          obtain ⟨o, ho⟩ := getElem?_some_of_lt (l := lvlTo l k) (k := j) (by rw [lvlTo_length]; exact hjt)
          obtain ⟨o0, o1⟩ := lvlTo_in l k o (List.mem_of_getElem? ho)
          obtain ⟨po, co, rfl, _, hco⟩ := (Hown.out.sl encI_length).open
          obtain ⟨g, offg, hpo, hLg, hcg⟩ := hco j o ho
          subst hpo
          have hg : z.val.cell? ⟨g, offg + j, none⟩ = some (.int .i64 o) := by have := hcg 0 _ rfl; simpa using this
          have hok1 := actsOk_at Ha.out Hy.out
          have hok2 := actsOk_at Ha.out hxj
          have hlen : (lvlTo l k).length = k := lvlTo_length l k
          have hjl : (j : Int) < ((lvlTo l k).length : Int) := by omega
          have hj0 : (0 : Int) ≤ (j : Int) := by omega
          have hj1 : (j : Int) < l.length := by omega
          have Hlen := Lib.hid hlen
          have Hk := Lib.hid (conflict_ok hok2 hok1); have Hx := Lib.hid hxj; have Ho := Lib.hid ho
          clear hok1 hok2 hxj ho hco hcg hlen
          rcases hcf : conf x y with _ | _
          · have Hn := Lib.hid (lvlAt_no Hx.out Hy.out Ho.out hcf)
            go_wp2_with fail
            (refine wp_region_up (by kernel_rfl) (by kernel_rfl) ?_; (repeat (go_big_quiet_step ((go_at_call 67; exact Calls.up (((Hk.out.trans hcf) ▸ sConflict_any x y _)))))); refine wpQuiet_nil ?_; intro _ hw'; obtain ⟨zq, hw''⟩ := hw'; subst hw'')
            go_wp2_with fail
            go_roundw
            case rel => exact ⟨j + 1, by go_num, by rw [Hn.out], by omega, (.of (by repeat (first | exact Ext.refl _ | refine Ext.up ?_ _ | refine Ext.alloc ?_ _ | refine Ext.drew ?_ | refine Ext.setRow ?_ (by first | (dsimp only; omega) | exact LeS.le | exact LeS.add _ | (simp; done) | (simp; omega)) _ | refine Ext.setCell ?_ (by first | (dsimp only; omega) | exact LeS.le | exact LeS.add _ | (simp; done) | (simp; omega)) _)))⟩
            case measure => simp [intOf]; omega
          · have Hn := Lib.hid (lvlAt_yes Hx.out Hy.out Ho.out hcf)
            go_wp2_with fail
            (refine wp_region_up (by kernel_rfl) (by kernel_rfl) ?_; (repeat (go_big_quiet_step ((go_at_call 67; exact Calls.up (((Hk.out.trans hcf) ▸ sConflict_any x y _)))))); refine wpQuiet_nil ?_; intro _ hw'; obtain ⟨zq, hw''⟩ := hw'; subst hw'')
            go_wp2_with fail
            go_roundw
            case rel => exact ⟨j + 1, by go_num, by rw [Hn.out, max_lt], by omega, (.of (by repeat (first | exact Ext.refl _ | refine Ext.up ?_ _ | refine Ext.alloc ?_ _ | refine Ext.drew ?_ | refine Ext.setRow ?_ (by first | (dsimp only; omega) | exact LeS.le | exact LeS.add _ | (simp; done) | (simp; omega)) _ | refine Ext.setCell ?_ (by first | (dsimp only; omega) | exact LeS.le | exact LeS.add _ | (simp; done) | (simp; omega)) _)))⟩
            case measure => simp [intOf]; omega
        · obtain rfl : j = k := by omega
          have hle : (lvlTo l j).length ≤ 10 := by rw [lvlTo_length]; omega
          go_wp2_with (at_builtin; refine wpList_push1 fI rfl (.tmp 39) (.tmp 41) rfl encI w (lvlAt l (lvlTo l j) j j) (lvlTo l j) rfl (Hown.out.up (by repeat (first | exact Ext.refl _ | refine Ext.up ?_ _ | refine Ext.alloc ?_ _ | refine Ext.drew ?_ | refine Ext.setRow ?_ (by first | (dsimp only; omega) | exact LeS.le | exact LeS.add _ | (simp; done) | (simp; omega)) _ | refine Ext.setCell ?_ (by first | (dsimp only; omega) | exact LeS.le | exact LeS.add _ | (simp; done) | (simp; omega)) _))) (by repeat (first | exact Ext.refl _ | refine Ext.up ?_ _ | refine Ext.alloc ?_ _ | refine Ext.drew ?_ | refine Ext.setRow ?_ (by first | (dsimp only; omega) | exact LeS.le | exact LeS.add _ | (simp; done) | (simp; omega)) _ | refine Ext.setCell ?_ (by first | (dsimp only; omega) | exact LeS.le | exact LeS.add _ | (simp; done) | (simp; omega)) _)) rfl (by go_simp) rfl rfl (oneI _) (by omega) (by omega) ?_; intro v1 z4 hown1)
          have hown2 := Lib.hid hown1; clear hown1
          go_wp2_with fail
          go_roundw
          case rel => exact ⟨j + 1, by go_num, by omega, (.of (by repeat (first | exact Ext.refl _ | refine Ext.up ?_ _ | refine Ext.alloc ?_ _ | refine Ext.drew ?_ | refine Ext.setRow ?_ (by first | (dsimp only; omega) | exact LeS.le | exact LeS.add _ | (simp; done) | (simp; omega)) _ | refine Ext.setCell ?_ (by first | (dsimp only; omega) | exact LeS.le | exact LeS.add _ | (simp; done) | (simp; omega)) _))), hown2.out⟩
          case measure => simp [intOf]; omega
    · go_wp2_with fail
      go_ret
      obtain rfl : k = l.length := by omega
      exact ⟨_, rfl, ⟨z, rfl⟩, hown⟩
end Go.Proofs.Ytknohbdhbjppjaa
namespace Go.Proofs
open Go.Shelf
def Try.sortInt_ren : Go.Shelf.Ren := ⟨fun | 6 => 118 | 15 => 155 | 14 => 154 | 28 => 187 | 29 => 188 | 20 => 179 | 21 => 180 | 22 => 181 | 23 => 182 | 24 => 183 | 25 => 184 | 26 => 185 | 27 => 186 | 46 => 200 | 47 => 201 | 48 => 202 | 49 => 203 | 50 => 204 | 57 => 208 | n => n, fun | 22 => 36 | 24 => 3 | 25 => 135 | 3 => 3 | 39 => 157 | 0 => 0 | 53 => 181 | 55 => 183 | 4 => 4 | 46 => 174 | 45 => 173 | 50 => 178 | 5 => 5 | 9 => 9 | 66 => 193 | 70 => 197 | 76 => 201 | 77 => 202 | n => n, fun | n => n⟩
theorem Try.sortInt : Go.Proofs.SlLaysF.n6 Try.prog Try.sortInt_ren := {
  mixed := by kernel_rfl
  f6 := ⟨Try.f118.name, by decide, Try.func118.trans (congrArg some (by kernel_rfl))⟩
  f14 := ⟨Try.f154.name, by decide, Try.func154.trans (congrArg some (by kernel_rfl))⟩
  f15 := Try.func155.trans (congrArg some (by kernel_rfl))
  f20 := ⟨Try.f179.name, by decide, Try.func179.trans (congrArg some (by kernel_rfl))⟩
  f21 := ⟨Try.f180.name, by decide, Try.func180.trans (congrArg some (by kernel_rfl))⟩
  f22 := ⟨Try.f181.name, by decide, Try.func181.trans (congrArg some (by kernel_rfl))⟩
  f23 := ⟨Try.f182.name, by decide, Try.func182.trans (congrArg some (by kernel_rfl))⟩
  f24 := ⟨Try.f183.name, by decide, Try.func183.trans (congrArg some (by kernel_rfl))⟩
  f25 := ⟨Try.f184.name, by decide, Try.func184.trans (congrArg some (by kernel_rfl))⟩
  f26 := ⟨Try.f185.name, by decide, Try.func185.trans (congrArg some (by kernel_rfl))⟩
  f27 := ⟨Try.f186.name, by decide, Try.func186.trans (congrArg some (by kernel_rfl))⟩
  f28 := Try.func187.trans (congrArg some (by kernel_rfl))
  f29 := Try.func188.trans (congrArg some (by kernel_rfl))
  f46 := ⟨Try.f200.name, by decide, Try.func200.trans (congrArg some (by kernel_rfl))⟩
  f47 := Try.func201.trans (congrArg some (by kernel_rfl))
  f48 := Try.func202.trans (congrArg some (by kernel_rfl))
  f49 := ⟨Try.f203.name, by decide, Try.func203.trans (congrArg some (by kernel_rfl))⟩
  f50 := ⟨Try.f204.name, by decide, Try.func204.trans (congrArg some (by kernel_rfl))⟩
  f57 := ⟨Try.f208.name, by decide, Try.func208.trans (congrArg some (by kernel_rfl))⟩
  t0 := Try.underlying0
  a0 := Try.isAgg0
  z0 := Try.sizeOf0
  v0 := Try.zeroValue0
  t3 := Try.underlying3
  a3 := Try.isAgg3
  z3 := Try.sizeOf3
  v3 := Try.zeroValue3
  t4 := Try.underlying4
  a4 := Try.isAgg4
  z4 := Try.sizeOf4
  v4 := Try.zeroValue4
  t5 := Try.underlying5
  a5 := Try.isAgg5
  z5 := Try.sizeOf5
  v5 := Try.zeroValue5
  t9 := Try.underlying9
  a9 := Try.isAgg9
  z9 := Try.sizeOf9
  v9 := Try.zeroValue9
  t22 := Try.underlying36
  a22 := Try.isAgg36
  z22 := Try.sizeOf36
  v22 := Try.zeroValue36
  a24 := Try.isAgg3
  z24 := Try.sizeOf3
  t25 := Try.underlying135
  a25 := Try.isAgg135
  z25 := Try.sizeOf135
  v25 := Try.zeroValue135
  t39 := Try.underlying157
  a39 := Try.isAgg157
  z39 := Try.sizeOf157
  v39 := Try.zeroValue157
  t45 := Try.underlying173
  a45 := Try.isAgg173
  z45 := Try.sizeOf173
  v45 := Try.zeroValue173
  t46 := Try.underlying174
  a46 := Try.isAgg174
  z46 := Try.sizeOf174
  v46 := Try.zeroValue174
  t50 := Try.underlying178
  a50 := Try.isAgg178
  z50 := Try.sizeOf178
  v50 := Try.zeroValue178
  t53 := Try.underlying181
  a53 := Try.isAgg181
  z53 := Try.sizeOf181
  v53 := Try.zeroValue181
  t55 := Try.underlying183
  a55 := Try.isAgg183
  z55 := Try.sizeOf183
  v55 := Try.zeroValue183
  t66 := Try.underlying193
  a66 := Try.isAgg193
  z66 := Try.sizeOf193
  v66 := Try.zeroValue193
  t70 := Try.underlying197
  a70 := Try.isAgg197
  z70 := Try.sizeOf197
  v70 := Try.zeroValue197
  t76 := Try.underlying201
  a76 := Try.isAgg201
  z76 := Try.sizeOf201
  v76 := Try.zeroValue201
  t77 := Try.underlying202
  a77 := Try.isAgg202
  z77 := Try.sizeOf202
  v77 := Try.zeroValue202 }
def Try.sortVer_ren : Go.Shelf.Ren := ⟨fun | 6 => 142 | 15 => 155 | 14 => 174 | 28 => 187 | 29 => 188 | 20 => 191 | 21 => 192 | 22 => 193 | 23 => 194 | 24 => 195 | 25 => 196 | 26 => 197 | 27 => 198 | 46 => 205 | 47 => 201 | 48 => 202 | 49 => 206 | 50 => 207 | 57 => 209 | n => n, fun | 22 => 44 | 24 => 108 | 25 => 149 | 3 => 3 | 39 => 157 | 0 => 0 | 53 => 181 | 55 => 183 | 4 => 4 | 46 => 174 | 45 => 173 | 50 => 178 | 5 => 5 | 9 => 9 | 66 => 193 | 70 => 197 | 76 => 201 | 77 => 202 | n => n, fun | n => n⟩
theorem Try.sortVer : Go.Proofs.SlLaysF0.n6 Try.prog Try.sortVer_ren := {
  mixed := by kernel_rfl
  f6 := ⟨Try.f142.name, by decide, Try.func142.trans (congrArg some (by kernel_rfl))⟩
  f14 := ⟨Try.f174.name, by decide, Try.func174.trans (congrArg some (by kernel_rfl))⟩
  f15 := Try.func155.trans (congrArg some (by kernel_rfl))
  f20 := ⟨Try.f191.name, by decide, Try.func191.trans (congrArg some (by kernel_rfl))⟩
  f21 := ⟨Try.f192.name, by decide, Try.func192.trans (congrArg some (by kernel_rfl))⟩
  f22 := ⟨Try.f193.name, by decide, Try.func193.trans (congrArg some (by kernel_rfl))⟩
  f23 := ⟨Try.f194.name, by decide, Try.func194.trans (congrArg some (by kernel_rfl))⟩
  f24 := ⟨Try.f195.name, by decide, Try.func195.trans (congrArg some (by kernel_rfl))⟩
  f25 := ⟨Try.f196.name, by decide, Try.func196.trans (congrArg some (by kernel_rfl))⟩
  f26 := ⟨Try.f197.name, by decide, Try.func197.trans (congrArg some (by kernel_rfl))⟩
  f27 := ⟨Try.f198.name, by decide, Try.func198.trans (congrArg some (by kernel_rfl))⟩
  f28 := Try.func187.trans (congrArg some (by kernel_rfl))
  f29 := Try.func188.trans (congrArg some (by kernel_rfl))
  f46 := ⟨Try.f205.name, by decide, Try.func205.trans (congrArg some (by kernel_rfl))⟩
  f47 := Try.func201.trans (congrArg some (by kernel_rfl))
  f48 := Try.func202.trans (congrArg some (by kernel_rfl))
  f49 := ⟨Try.f206.name, by decide, Try.func206.trans (congrArg some (by kernel_rfl))⟩
  f50 := ⟨Try.f207.name, by decide, Try.func207.trans (congrArg some (by kernel_rfl))⟩
  f57 := ⟨Try.f209.name, by decide, Try.func209.trans (congrArg some (by kernel_rfl))⟩
  t0 := Try.underlying0
  a0 := Try.isAgg0
  z0 := Try.sizeOf0
  v0 := Try.zeroValue0
  t3 := Try.underlying3
  a3 := Try.isAgg3
  z3 := Try.sizeOf3
  v3 := Try.zeroValue3
  t4 := Try.underlying4
  a4 := Try.isAgg4
  z4 := Try.sizeOf4
  v4 := Try.zeroValue4
  t5 := Try.underlying5
  a5 := Try.isAgg5
  z5 := Try.sizeOf5
  v5 := Try.zeroValue5
  t9 := Try.underlying9
  a9 := Try.isAgg9
  z9 := Try.sizeOf9
  v9 := Try.zeroValue9
  t22 := Try.underlying44
  a22 := Try.isAgg44
  z22 := Try.sizeOf44
  v22 := Try.zeroValue44
  t25 := Try.underlying149
  a25 := Try.isAgg149
  z25 := Try.sizeOf149
  v25 := Try.zeroValue149
  t39 := Try.underlying157
  a39 := Try.isAgg157
  z39 := Try.sizeOf157
  v39 := Try.zeroValue157
  t45 := Try.underlying173
  a45 := Try.isAgg173
  z45 := Try.sizeOf173
  v45 := Try.zeroValue173
  t46 := Try.underlying174
  a46 := Try.isAgg174
  z46 := Try.sizeOf174
  v46 := Try.zeroValue174
  t50 := Try.underlying178
  a50 := Try.isAgg178
  z50 := Try.sizeOf178
  v50 := Try.zeroValue178
  t53 := Try.underlying181
  a53 := Try.isAgg181
  z53 := Try.sizeOf181
  v53 := Try.zeroValue181
  t55 := Try.underlying183
  a55 := Try.isAgg183
  z55 := Try.sizeOf183
  v55 := Try.zeroValue183
  t66 := Try.underlying193
  a66 := Try.isAgg193
  z66 := Try.sizeOf193
  v66 := Try.zeroValue193
  t70 := Try.underlying197
  a70 := Try.isAgg197
  z70 := Try.sizeOf197
  v70 := Try.zeroValue197
  t76 := Try.underlying201
  a76 := Try.isAgg201
  z76 := Try.sizeOf201
  v76 := Try.zeroValue201
  t77 := Try.underlying202
  a77 := Try.isAgg202
  z77 := Try.sizeOf202
  v77 := Try.zeroValue202 }
end Go.Proofs
namespace Go.Proofs.Ytknohbdhbjppjaa
open Go Go.RowKit

theorem summed_iff {l : List Int} : summed l = true ↔ ∀ n ∈ l, 0 ≤ n ∧ n ≤ 2000000 := by simp [summed, inR_iff]
theorem summed_at {l : List Int} (h : summed l = true) {k : Nat} {n : Int} (hn : l[k]? = some n) : 0 ≤ n ∧ n ≤ 2000000 := summed_iff.1 h n (List.mem_of_getElem? hn)
theorem sumOf_yes {tag : Int} {l : List Int} (h0 : 0 ≤ tag) (h9 : tag ≤ 9) (h : summed l = true) : sumOf tag l = sumL (17 + tag) l := by
  unfold sumOf; rw [if_pos (by simp [h, inR]; omega)]
theorem sumOf_no {tag : Int} {l : List Int} (h : summed l = false) : sumOf tag l = -1 := by unfold sumOf; rw [if_neg (by simp [h])]
theorem sumOf_tag {tag : Int} {l : List Int} (h : inR tag 0 9 = false) : sumOf tag l = -1 := by unfold sumOf; rw [if_neg (by simp [h])]
theorem sumTo_in {tag : Int} (h0 : 0 ≤ tag) (h9 : tag ≤ 9) (l : List Int) : 0 ≤ sumL (17 + tag) l ∧ sumL (17 + tag) l < 1000003 := sumL_in (by omega) (by omega) l
def aNums (l : List Actn) : List Int := l.flatMap fun x => [x.kind, x.src, x.dst, x.amt]
theorem aNums_snoc {l : List Actn} {k : Nat} {x : Actn} (h : l[k]? = some x) : aNums (l.take (k + 1)) = aNums (l.take k) ++ [x.kind, x.src, x.dst, x.amt] := by
  rw [List.take_add_one, h]; simp [aNums]
theorem aNums_length (l : List Actn) : (aNums l).length = 4 * l.length := by
  induction l with
  | nil => rfl
  | cons x l ih => simp [aNums, List.flatMap_cons] at *; omega
theorem Actn.ok_kind {x : Actn} (h : x.ok = true) : 1 ≤ x.kind ∧ x.kind ≤ 6 := by
  simp only [Actn.ok, Bool.and_eq_true] at h
  have := h.2.2.2
  unfold kindOk at this
  split at this
  · omega
  · split at this
    · omega
    · simp at this; omega
theorem aNums_summed {l : List Actn} (h : ∀ x ∈ l, x.ok = true) : summed (aNums l) = true := by
  rw [summed_iff]
  intro n hn
  simp only [aNums, List.mem_flatMap] at hn
  obtain ⟨x, hx, hn⟩ := hn
  have h1 := h x hx
  have h2 := Actn.ok_kind h1
  simp only [Actn.ok, Bool.and_eq_true, inR_iff] at h1
  simp at hn
  omega
theorem summed_append {a b : List Int} (h : summed a = true) (h' : summed b = true) : summed (a ++ b) = true := by
  rw [summed_iff] at *; intro n hn; rcases List.mem_append.1 hn with h1 | h1
  · exact h n h1
  · exact h' n h1
/-- append of several elements just built. -/
theorem wpList_pushL {P : Program} {t e sz bytes : Nat} (F : AppFacts P t e sz bytes) {ops : Array Oper} {rest : List Oper} {o : Oper} {a : Act} {Q : Exit → Act → World → Prop} (hgd : o.guard = none) (s x : Operand)
    (ho : o.op = .call { callee := .builtin .append, args := #[s, x], argTypes := #[t, t] }) {α : Type} (enc : α → List Value) (he : ∀ x, (enc x).length = sz) (Wb : World) {W1 : World} {cs : Array Value} {e' : TypeId} (ys : List α) (l : List α) {v : Value} (hs : a.eval s = v)
    (hown : Own enc e sz Wb.heap.size W1 v l) (hE : Ext Wb W1) {g m c : Nat} (hx : a.eval x = .slice (some ⟨g, 0, none⟩) m c) (hm : m = ys.length) (hg : g = W1.heap.size) (hcs : cs.toList = ys.flatMap enc)
    (h1 : ∀ u ∈ ys.flatMap enc, u.oneCell' = true) (hb : (l.length + ys.length) * bytes ≤ 140737488355328) (hb' : l.length + ys.length ≤ 9223372036854775807)
    (h : ∀ v' (z1 : Extd Wb), Own enc e sz Wb.heap.size z1.val v' (l ++ ys) → wpList P ops Q rest (a.put o.dst v') z1.val) : wpList P ops Q (o :: rest) a (W1.alloc (.cells cs e')) := by
  subst hg; subst hm
  obtain ⟨i, z, hi, hz, hsize, hby, hzs⟩ := F.info
  have hown' : (W1.alloc (.cells cs e')).ownsRow Wb.heap.size e sz v l.length (l.flatMap enc) := hown.up ((Ext.refl _).alloc _)
  have hE' := hE.alloc (.cells cs e')
  refine wpList_append_own _ hgd s x t ho Wb.heap.size e i z sz bytes F.und hi hz hsize hby hzs F.pos v l.length (l.flatMap enc) hs hown' ⟨W1.heap.size, 0, none⟩ ys.length c (ys.flatMap enc) hx (flatMap_length he ys) (fun j u hu => ?_) h1 (by simpa [maxLen] using hb') hb hE'.size ?_
  · have e1 : (⟨W1.heap.size, 0, none⟩ : Addr).add j = ⟨W1.heap.size, j, none⟩ := by unfold Addr.add; split <;> simp_all
    rw [e1, cell_of_row _ W1.heap.size j cs e' (0, 0) (heap_alloc_new W1 _), ← Array.getElem?_toList, hcs]
    exact hu
  · intro v' w1 hown1 hg1 _
    refine h v' ⟨w1, hE'.grown hg1 fun k hk => (World.ownsRow.lt hown' k hk).1⟩ ?_
    show w1.ownsRow _ _ _ _ _ _
    simpa [Own] using hown1
/-- .. in a region that draws its order. -/
theorem step_pushL {P : Program} {t e sz bytes : Nat} (F : AppFacts P t e sz bytes) {ops : Array Oper} {o : Oper} {a : Act} {K : Act → World → Prop} {Q : Exit → Act → World → Prop} {E : Prop} (hgd : o.guard = none) (s x : Operand)
    (ho : o.op = .call { callee := .builtin .append, args := #[s, x], argTypes := #[t, t] }) {α : Type} (enc : α → List Value) (he : ∀ x, (enc x).length = sz) (Wb : World) {W1 : World} {cs : Array Value} {e' : TypeId} (ys : List α) (l : List α) {v : Value} (hs : a.eval s = v)
    (hown : Own enc e sz Wb.heap.size W1 v l) (hE : Ext Wb W1) {g m c : Nat} (hx : a.eval x = .slice (some ⟨g, 0, none⟩) m c) (hm : m = ys.length) (hm0 : 0 < m) (hg : g = W1.heap.size) (hcs : cs.toList = ys.flatMap enc)
    (h1 : ∀ u ∈ ys.flatMap enc, u.oneCell' = true) (hb : (l.length + ys.length) * bytes ≤ 140737488355328) (hb' : l.length + ys.length ≤ 9223372036854775807)
    (h : ∀ v' (z1 : Extd Wb), Own enc e sz Wb.heap.size z1.val v' (l ++ ys) → K (a.put o.dst v') z1.val) :
    if Region.wanted o (yielded ops a.tmps) = true then Oper.wp P o a (W1.alloc (.cells cs e')).drew K Q else E := by
  subst hg; subst hm
  obtain ⟨i, z, hi, hz, hsize, hby, hzs⟩ := F.info
  have hown' : (W1.alloc (.cells cs e')).drew.ownsRow Wb.heap.size e sz v l.length (l.flatMap enc) := hown.up ((Ext.refl _).alloc _).drew
  have hE' := (hE.alloc (.cells cs e')).drew
  refine step_append_lies _ hgd s x t ho Wb.heap.size e i z sz bytes F.und hi hz hsize hby hzs F.pos v l.length (l.flatMap enc) hs hown' ⟨W1.heap.size, 0, none⟩ ys.length c (ys.flatMap enc) hx (flatMap_length he ys) (fun j u hu => ?_) h1 hm0 (by simpa [maxLen] using hb') hb hE'.size _ rfl ?_
  · have e1 : (⟨W1.heap.size, 0, none⟩ : Addr).add j = ⟨W1.heap.size, j, none⟩ := by unfold Addr.add; split <;> simp_all
    rw [e1, cell_of_row (W1.alloc (.cells cs e')).drew W1.heap.size j cs e' (0, 0) (heap_alloc_new W1 _), ← Array.getElem?_toList, hcs]
    exact hu
  · intro g cap w1 hown1 hg1 _ _
    refine h _ ⟨w1, hE'.grown hg1 fun k hk => (World.ownsRow.lt hown' k hk).1⟩ ?_
    show w1.ownsRow _ _ _ _ _ _
    simpa [Own] using hown1
theorem oneIs (l : List Int) : ∀ u ∈ l.flatMap encI, u.oneCell' = true := by
  intro u hu
  obtain ⟨x, _, h⟩ := List.mem_flatMap.1 hu
  exact oneI x u h
end Go.Proofs.Ytknohbdhbjppjaa
namespace Go.Proofs.Ytknohbdhbjppjaa
open Go Go.RowKit

def leafOf (key v : Int) : Int := sumL 18 [key, v]
def nodeOf (a b : Int) : Int := sumL 19 [a, b]
/-- The first k leaves. -/
def leafTo (v : List Int) : Nat → List Int
  | 0 => []
  | k + 1 => leafTo v k ++ [leafOf (k : Int) (v.getD k 0)]
theorem leafTo_length (v : List Int) : ∀ k, (leafTo v k).length = k
  | 0 => rfl
  | k + 1 => by simp [leafTo, leafTo_length v k]
/-- The first k sums of the level above. -/
def upTo2 (row : List Int) : Nat → List Int
  | 0 => []
  | k + 1 => upTo2 row k ++ [nodeOf (row.getD (2 * k) 0) (row.getD (2 * k + 1) 0)]
theorem upTo2_length (row : List Int) : ∀ k, (upTo2 row k).length = k
  | 0 => rfl
  | k + 1 => by simp [upTo2, upTo2_length row k]
def lvlUp (row : List Int) : List Int := upTo2 row (row.length / 2)
theorem lvlUp_length (row : List Int) : (lvlUp row).length = row.length / 2 := upTo2_length _ _
/-- Level n of the tree. -/
def treeRow (v : List Int) : Nat → List Int
  | 0 => leafTo v 32
  | n + 1 => lvlUp (treeRow v n)
theorem treeRow_length (v : List Int) : ∀ n, n ≤ 5 → (treeRow v n).length = 32 / 2 ^ n
  | 0, _ => leafTo_length v 32
  | n + 1, h => by
    rw [treeRow, lvlUp_length, treeRow_length v n (by omega), Nat.div_div_eq_div_mul, Nat.pow_succ]
theorem pow_even {n : Nat} (h : n < 5) : 32 / 2 ^ n = 2 * (32 / 2 ^ n / 2) := by
  have : n = 0 ∨ n = 1 ∨ n = 2 ∨ n = 3 ∨ n = 4 := by omega
  rcases this with rfl | rfl | rfl | rfl | rfl <;> rfl
theorem treeRow_even (v : List Int) {n : Nat} (h : n < 5) : (treeRow v n).length = 2 * ((treeRow v n).length / 2) := by
  rw [treeRow_length v n (by omega)]; exact pow_even h
theorem leafOf_in (key v : Int) : 0 ≤ leafOf key v ∧ leafOf key v < 1000003 := sumL_in (by decide) (by decide) _
theorem nodeOf_in (a b : Int) : 0 ≤ nodeOf a b ∧ nodeOf a b < 1000003 := sumL_in (by decide) (by decide) _
theorem leafTo_in (v : List Int) : ∀ k, ∀ x ∈ leafTo v k, 0 ≤ x ∧ x < 1000003
  | 0 => by simp [leafTo]
  | k + 1 => by
    intro x hx
    rw [leafTo, List.mem_append, List.mem_singleton] at hx
    rcases hx with hx | rfl
    · exact leafTo_in v k x hx
    · exact leafOf_in _ _
theorem upTo2_in (row : List Int) : ∀ k, ∀ x ∈ upTo2 row k, 0 ≤ x ∧ x < 1000003
  | 0 => by simp [upTo2]
  | k + 1 => by
    intro x hx
    rw [upTo2, List.mem_append, List.mem_singleton] at hx
    rcases hx with hx | rfl
    · exact upTo2_in row k x hx
    · exact nodeOf_in _ _
theorem treeRow_in (v : List Int) (n : Nat) : ∀ x ∈ treeRow v n, 0 ≤ x ∧ x < 1000003 := by
  cases n with
  | zero => exact leafTo_in v 32
  | succ n => exact upTo2_in _ _
def rootV (v : List Int) : Int := (treeRow v 5).getD 0 0
def rootOf (s : List Ent) : Int := if entsOk 1 s = true then rootV (valsOf s) else -1
theorem rootOf_no {s : List Ent} (h : entsOk 1 s = false) : rootOf s = -1 := by unfold rootOf; rw [h]; rfl
theorem rootOf_yes {s : List Ent} (h : entsOk 1 s = true) : rootOf s = rootV (valsOf s) := by unfold rootOf; rw [h]; rfl
theorem getD_of {l : List Int} {k : Nat} {x : Int} (h : l[k]? = some x) : l.getD k 0 = x := by simp [List.getD, h]
theorem summed_two {a b : Int} (ha : 0 ≤ a ∧ a ≤ 2000000) (hb : 0 ≤ b ∧ b ≤ 2000000) : summed [a, b] = true := by
  rw [summed_iff]; intro n hn; simp at hn; rcases hn with rfl | rfl; exact ha; exact hb
end Go.Proofs.Ytknohbdhbjppjaa
namespace Go.Proofs.Ytknohbdhbjppjaa
open Go Go.RowKit Go.Proofs

structure Blk where
  (bf ht vw rt ef : Int)
def Blk.okL (b : Blk) (l : List Actn) : Bool := inR b.bf 0 1000002 && (inR b.rt 0 1000002 && (inR b.ef 0 1000002 && (inR b.ht 0 100 && (inR b.vw 0 1000 && actsOk l))))
theorem guards5 (a b c d e : Bool) : a = false ∨ (a = true ∧ b = false) ∨ (a = true ∧ b = true ∧ c = false) ∨ (a = true ∧ b = true ∧ c = true ∧ d = false) ∨ (a = true ∧ b = true ∧ c = true ∧ d = true ∧ e = false) ∨ (a = true ∧ b = true ∧ c = true ∧ d = true ∧ e = true) := by cases a <;> cases b <;> cases c <;> cases d <;> cases e <;> simp

set_option maxHeartbeats 1000000 in
theorem iBlockValid_any (b : Blk) (l : List Actn) (v : Value) (w : World) (h : SL (RF Actn.enc) 4 w v l) : Calls Try.prog 114 #[.agg #[.int .i64 b.bf, .int .i64 b.ht, .int .i64 b.vw, v, .int .i64 b.rt, .int .i64 b.ef]] w fun e w' => e = .returned (.bool (b.okL l)) ∧ Up w w' := by
  have hs := h
  obtain ⟨p, cap, rfl, _, _⟩ := h.open
  have Hs := Lib.hid hs; clear h hs
  rcases guards5 (inR b.bf 0 1000002) (inR b.rt 0 1000002) (inR b.ef 0 1000002) (inR b.ht 0 100) (inR b.vw 0 1000) with h1 | ⟨h1, h2⟩ | ⟨h1, h2, h3⟩ | ⟨h1, h2, h3, h4⟩ | ⟨h1, h2, h3, h4, h5⟩ | ⟨h1, h2, h3, h4, h5⟩
  all_goals
    go_enter Try.func114, Try.ntmps114
    go_wp2_with (first | (go_at_call 152; refine (isSum_any _ _).mono ?_; rintro e w' ⟨rfl, rfl⟩) | (go_at_call 153; refine (isView_any _ _).mono ?_; rintro e w' ⟨rfl, rfl⟩) | (go_at_call 89; refine (in_any _ _ _ _).mono ?_; rintro e w' ⟨rfl, rfl⟩) | (go_at_call 147; refine (iActionsValid_any l _ _ (Hs.out.up (by repeat (first | exact Ext.refl _ | refine Ext.up ?_ _ | refine Ext.alloc ?_ _ | refine Ext.drew ?_ | refine Ext.setRow ?_ (by first | (dsimp only; omega) | exact LeS.le | exact LeS.add _ | (simp; done) | (simp; omega)) _ | refine Ext.setCell ?_ (by first | (dsimp only; omega) | exact LeS.le | exact LeS.add _ | (simp; done) | (simp; omega)) _)))).mono ?_; rintro e w' ⟨rfl, z, rfl⟩))
    go_ret
    exact ⟨by simp [Blk.okL, *], (.of (by repeat (first | exact Ext.refl _ | refine Ext.up ?_ _ | refine Ext.alloc ?_ _ | refine Ext.drew ?_ | refine Ext.setRow ?_ (by first | (dsimp only; omega) | exact LeS.le | exact LeS.add _ | (simp; done) | (simp; omega)) _ | refine Ext.setCell ?_ (by first | (dsimp only; omega) | exact LeS.le | exact LeS.add _ | (simp; done) | (simp; omega)) _)))⟩
set_option maxHeartbeats 1000000 in
theorem sBlockValid_any (b : Blk) (l : List Actn) (v : Value) (w : World) (h : SL (RF Actn.enc) 4 w v l) : Calls Try.prog 105 #[.agg #[.int .i64 b.bf, .int .i64 b.ht, .int .i64 b.vw, v, .int .i64 b.rt, .int .i64 b.ef]] w fun e w' => e = .returned (.bool (b.okL l)) ∧ Up w w' := by
  have hs := h
  obtain ⟨p, cap, rfl, _, _⟩ := h.open
  have Hs := Lib.hid hs; clear h hs
  rcases guards5 (inR b.bf 0 1000002) (inR b.rt 0 1000002) (inR b.ef 0 1000002) (inR b.ht 0 100) (inR b.vw 0 1000) with h1 | ⟨h1, h2⟩ | ⟨h1, h2, h3⟩ | ⟨h1, h2, h3, h4⟩ | ⟨h1, h2, h3, h4, h5⟩ | ⟨h1, h2, h3, h4, h5⟩
  all_goals
    go_enter Try.func105, Try.ntmps105
    go_wp2_with (first | (go_at_call 84; refine (l1In_any _ _ _ _).mono ?_; rintro e w' ⟨rfl, rfl⟩) | (go_at_call 143; refine (sActionsValid_any l _ _ (Hs.out.up (by repeat (first | exact Ext.refl _ | refine Ext.up ?_ _ | refine Ext.alloc ?_ _ | refine Ext.drew ?_ | refine Ext.setRow ?_ (by first | (dsimp only; omega) | exact LeS.le | exact LeS.add _ | (simp; done) | (simp; omega)) _ | refine Ext.setCell ?_ (by first | (dsimp only; omega) | exact LeS.le | exact LeS.add _ | (simp; done) | (simp; omega)) _)))).mono ?_; rintro e w' ⟨rfl, z, rfl⟩))
    go_ret
    exact ⟨by simp [Blk.okL, *], (.of (by repeat (first | exact Ext.refl _ | refine Ext.up ?_ _ | refine Ext.alloc ?_ _ | refine Ext.drew ?_ | refine Ext.setRow ?_ (by first | (dsimp only; omega) | exact LeS.le | exact LeS.add _ | (simp; done) | (simp; omega)) _ | refine Ext.setCell ?_ (by first | (dsimp only; omega) | exact LeS.le | exact LeS.add _ | (simp; done) | (simp; omega)) _)))⟩
theorem szBlock_any (b : Blk) (l : List Actn) (v : Value) (n : Int) (w : World) (h : SL (RF Actn.enc) 4 w v l) (hn0 : 0 ≤ n) (hn1 : n ≤ 1048576) : Calls Try.prog 52 #[.agg #[.int .i64 b.bf, .int .i64 b.ht, .int .i64 b.vw, v, .int .i64 b.rt, .int .i64 b.ef], .int .i64 n] w fun e w' => e = .returned (.int .i64 (if szOf n l.length < 0 then -1 else szOf n l.length)) ∧ Up w w' := by
  have hs := h
  obtain ⟨p, cap, rfl, _, _⟩ := h.open
  have Hs := Lib.hid hs; clear h hs
  by_cases hz : szOf n l.length < 0
  · rw [if_pos hz]
    go_enter Try.func52, Try.ntmps52
    go_wp2_with (go_at_call 35; refine (szActionS_any l _ _ _ (Hs.out.up (by repeat (first | exact Ext.refl _ | refine Ext.up ?_ _ | refine Ext.alloc ?_ _ | refine Ext.drew ?_ | refine Ext.setRow ?_ (by first | (dsimp only; omega) | exact LeS.le | exact LeS.add _ | (simp; done) | (simp; omega)) _ | refine Ext.setCell ?_ (by first | (dsimp only; omega) | exact LeS.le | exact LeS.add _ | (simp; done) | (simp; omega)) _))) hn0 hn1).mono ?_; rintro e w' ⟨rfl, rfl⟩)
    go_ret
    exact ⟨rfl, (.of (by repeat (first | exact Ext.refl _ | refine Ext.up ?_ _ | refine Ext.alloc ?_ _ | refine Ext.drew ?_ | refine Ext.setRow ?_ (by first | (dsimp only; omega) | exact LeS.le | exact LeS.add _ | (simp; done) | (simp; omega)) _ | refine Ext.setCell ?_ (by first | (dsimp only; omega) | exact LeS.le | exact LeS.add _ | (simp; done) | (simp; omega)) _)))⟩
  · rw [if_neg hz]
    go_enter Try.func52, Try.ntmps52
    go_wp2_with (go_at_call 35; refine (szActionS_any l _ _ _ (Hs.out.up (by repeat (first | exact Ext.refl _ | refine Ext.up ?_ _ | refine Ext.alloc ?_ _ | refine Ext.drew ?_ | refine Ext.setRow ?_ (by first | (dsimp only; omega) | exact LeS.le | exact LeS.add _ | (simp; done) | (simp; omega)) _ | refine Ext.setCell ?_ (by first | (dsimp only; omega) | exact LeS.le | exact LeS.add _ | (simp; done) | (simp; omega)) _))) hn0 hn1).mono ?_; rintro e w' ⟨rfl, rfl⟩)
    go_ret
    exact ⟨rfl, (.of (by repeat (first | exact Ext.refl _ | refine Ext.up ?_ _ | refine Ext.alloc ?_ _ | refine Ext.drew ?_ | refine Ext.setRow ?_ (by first | (dsimp only; omega) | exact LeS.le | exact LeS.add _ | (simp; done) | (simp; omega)) _ | refine Ext.setCell ?_ (by first | (dsimp only; omega) | exact LeS.le | exact LeS.add _ | (simp; done) | (simp; omega)) _)))⟩
set_option maxHeartbeats 1000000 in
theorem eqBlock_same (b : Blk) (l : List Actn) (v v' : Value) (w : World) (h : SL (RF Actn.enc) 4 w v l) (h' : SL (RF Actn.enc) 4 w v' l) : Calls Try.prog 18 #[.agg #[.int .i64 b.bf, .int .i64 b.ht, .int .i64 b.vw, v, .int .i64 b.rt, .int .i64 b.ef], .agg #[.int .i64 b.bf, .int .i64 b.ht, .int .i64 b.vw, v', .int .i64 b.rt, .int .i64 b.ef]] w fun e w' => e = .returned (.bool true) ∧ Up w w' := by
  have hs := h; have hs' := h'
  obtain ⟨p, cap, rfl, _, _⟩ := h.open
  obtain ⟨p', cap', rfl, _, _⟩ := h'.open
  have Hs := Lib.hid hs; have Hs' := Lib.hid hs'; clear h hs h' hs'
  go_enter Try.func18, Try.ntmps18
  go_wp2_with (go_at_call 41; refine (eqActionS_same l _ _ _ (Hs.out.up (by repeat (first | exact Ext.refl _ | refine Ext.up ?_ _ | refine Ext.alloc ?_ _ | refine Ext.drew ?_ | refine Ext.setRow ?_ (by first | (dsimp only; omega) | exact LeS.le | exact LeS.add _ | (simp; done) | (simp; omega)) _ | refine Ext.setCell ?_ (by first | (dsimp only; omega) | exact LeS.le | exact LeS.add _ | (simp; done) | (simp; omega)) _))) (Hs'.out.up (by repeat (first | exact Ext.refl _ | refine Ext.up ?_ _ | refine Ext.alloc ?_ _ | refine Ext.drew ?_ | refine Ext.setRow ?_ (by first | (dsimp only; omega) | exact LeS.le | exact LeS.add _ | (simp; done) | (simp; omega)) _ | refine Ext.setCell ?_ (by first | (dsimp only; omega) | exact LeS.le | exact LeS.add _ | (simp; done) | (simp; omega)) _)))).mono ?_; rintro e w' ⟨rfl, z, rfl⟩)
  go_ret
  exact ⟨rfl, (.of (by repeat (first | exact Ext.refl _ | refine Ext.up ?_ _ | refine Ext.alloc ?_ _ | refine Ext.drew ?_ | refine Ext.setRow ?_ (by first | (dsimp only; omega) | exact LeS.le | exact LeS.add _ | (simp; done) | (simp; omega)) _ | refine Ext.setCell ?_ (by first | (dsimp only; omega) | exact LeS.le | exact LeS.add _ | (simp; done) | (simp; omega)) _)))⟩
end Go.Proofs.Ytknohbdhbjppjaa
