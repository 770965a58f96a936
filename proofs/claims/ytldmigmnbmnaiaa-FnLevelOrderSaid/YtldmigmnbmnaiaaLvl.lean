/- Walks: FnExactLevelsOf: levels of actions. -/
import Derived.Test.YtldmigmnbmnaiaaOrd
import Derived.Test.YtldmigmnbmnaiaaPush
import Derived.Test.YtldmigmnbmnaiaaLvlL
namespace Go.Proofs.Ytldmigmnbmnaiaa
open Go Go.RowKit Go.Proofs

theorem conflict_ok {x y : Actn} (hx : x.ok = true) (hy : y.ok = true) : conflict x y = conf x y := by simp [conflict, hx, hy]
theorem max_lt (a b : Int) : max a b = if a < b then b else a := by split <;> omega
def lvlR (l : List Actn) : List Int := if actsOk l = true then lvlTo l l.length else []
theorem lvlR_no {l : List Actn} (h : actsOk l = false) : lvlR l = [] := by unfold lvlR; rw [h]; rfl
theorem lvlR_yes {l : List Actn} (h : actsOk l = true) : lvlR l = lvlTo l l.length := by unfold lvlR; rw [h]; rfl
theorem lvlR_le (l : List Actn) : (lvlR l).length ≤ 10 := by
  rcases h : actsOk l with _ | _
  · rw [lvlR_no h]; simp
  · rw [lvlR_yes h, lvlTo_length]; exact actsOk_len h
set_option maxHeartbeats 4000000 in
theorem iLevelsOf_any (l : List Actn) (v : Value) (w : World) (h : SL (RF Actn.enc) 4 w v l) :
    Calls Try.prog 12 #[v] w fun e w' => ∃ v', e = .returned v' ∧ Up w w' ∧ Own encI 3 1 w.heap.size w' v' (lvlR l) := by
  have Hl := Lib.hid h
  obtain ⟨pl, cl, hvl, hll, hcl⟩ := h.open
  obtain ⟨_, cl', hvl', _, hlc⟩ := h.openc
  rw [hvl] at hvl'; cases hvl'
  subst hvl
  clear h
  rcases ha : actsOk l with _ | _
  · rw [lvlR_no ha]
    go_enter Try.func12, Try.ntmps12
    go_wp2_with (go_at_call 46; refine (iActionsValid_any l _ _ Hl.out).mono ?_; rintro e w' ⟨rfl, z1, rfl⟩)
    go_ret
    exact ⟨_, rfl, (.of (by repeat (first | exact Ext.refl _ | refine Ext.up ?_ _ | refine Ext.alloc ?_ _ | refine Ext.drew ?_ | refine Ext.setRow ?_ (by first | (dsimp only; omega) | exact LeS.le | exact LeS.add _ | (simp; done) | (simp; omega)) _ | refine Ext.setCell ?_ (by first | (dsimp only; omega) | exact LeS.le | exact LeS.add _ | (simp; done) | (simp; omega)) _))), Own.nil _ _ _ _ _⟩
  rw [lvlR_yes ha]
  have hl10 := actsOk_len ha
  have Ha := Lib.hid ha
  go_enter Try.func12, Try.ntmps12
  go_wp2_with (go_at_call 46; refine (iActionsValid_any l _ _ Hl.out).mono ?_; rintro e w' ⟨rfl, z1, rfl⟩)
  go_loopw [3, 4, 5, 6, 7, 8, 14] (fun s3 _ _ _ _ _ s14 wr => ∃ k : Nat, s14 = .int .i64 k ∧ k ≤ l.length ∧ Up w wr ∧ Own encI 3 1 w.heap.size wr s3 (lvlTo l k)) (fun _ _ _ _ _ _ s14 _ => l.length - (intOf s14).toNat)
  case atStart => exact ⟨0, rfl, Nat.zero_le _, (.of (by repeat (first | exact Ext.refl _ | refine Ext.up ?_ _ | refine Ext.alloc ?_ _ | refine Ext.drew ?_ | refine Ext.setRow ?_ (by first | (dsimp only; omega) | exact LeS.le | exact LeS.add _ | (simp; done) | (simp; omega)) _ | refine Ext.setCell ?_ (by first | (dsimp only; omega) | exact LeS.le | exact LeS.add _ | (simp; done) | (simp; omega)) _))), Own.nil _ _ _ _ _⟩
  case round =>
    obtain ⟨k, rfl, hk, ⟨z, rfl⟩, hown⟩ := hrel
    by_cases hlt : k < l.length
    · obtain ⟨y, hyk⟩ := getElem?_some_of_lt hlt
      obtain ⟨b, off, hp, hb, _⟩ := hcl k y hyk
      obtain ⟨y0, y1, y2, y3⟩ := acell hcl hp hyk
      subst hp
      have Hy := Lib.hid hyk; have Hcl := Lib.hid hcl; have Hown := Lib.hid hown
      have hkc : (k : Int) ≤ (cl : Int) := by omega
      have hk0 : (0 : Int) ≤ (k : Int) := by omega
      clear hyk hcl hown
      go_wp2_with fail
      go_loopw [6, 7, 8, 23] (fun s6 _ _ s23 wr => ∃ j : Nat, s23 = .int .i64 j ∧ s6 = .int .i64 (lvlAt l (lvlTo l k) k j) ∧ j ≤ k ∧ Up (z.val.alloc (.cells #[.int .i64 y.kind, .int .i64 y.src, .int .i64 y.dst, .int .i64 y.amt] 32)) wr) (fun _ _ _ s23 _ => k - (intOf s23).toNat)
      case atStart => exact ⟨0, rfl, rfl, Nat.zero_le _, (.of (by repeat (first | exact Ext.refl _ | refine Ext.up ?_ _ | refine Ext.alloc ?_ _ | refine Ext.drew ?_ | refine Ext.setRow ?_ (by first | (dsimp only; omega) | exact LeS.le | exact LeS.add _ | (simp; done) | (simp; omega)) _ | refine Ext.setCell ?_ (by first | (dsimp only; omega) | exact LeS.le | exact LeS.add _ | (simp; done) | (simp; omega)) _)))⟩
      case round =>
        obtain ⟨j, rfl, rfl, hj, ⟨z2, rfl⟩⟩ := hrel
        by_cases hjt : j < k
        · obtain ⟨x, hxj⟩ := getElem?_some_of_lt (show j < l.length by omega)
          obtain ⟨x0, x1, x2, x3⟩ := acell Hcl.out rfl hxj
          obtain ⟨o, ho⟩ := getElem?_some_of_lt (l := lvlTo l k) (k := j) (by rw [lvlTo_length]; exact hjt)
          obtain ⟨o0, o1⟩ := lvlTo_in l k o (List.mem_of_getElem? ho)
          obtain ⟨po, co, rfl, _, hco⟩ := (Hown.out.sl encI_length).open
          obtain ⟨g, offg, hpo, hLg, hcg⟩ := hco j o ho
          subst hpo
          have hg : z.val.cell? ⟨g, offg + j, none⟩ = some (.int .i64 o) := by have := hcg 0 _ rfl; simpa using this
          have hok1 := actsOk_at Ha.out Hy.out
          have hok2 := actsOk_at Ha.out hxj
          have hlen : (lvlTo l k).length = k := lvlTo_length l k
          have hjl : (j : Int) < ((lvlTo l k).length : Int) := by omega
          have Hlen := Lib.hid hlen
          have Hk1 := Lib.hid hok1; have Hk2 := Lib.hid hok2; have Hx := Lib.hid hxj; have Ho := Lib.hid ho
          clear hok1 hok2 hxj ho hco hcg hlen
          rcases hcf : conf y x with _ | _
          · have Hn := Lib.hid (lvlAt_no Hx.out Hy.out Ho.out ((conf_comm x y).trans hcf))
            go_wp2_with (go_at_call 47; refine ((hcf ▸ conflicts_any y x _ Hk1.out Hk2.out)).mono ?_; rintro e w' ⟨rfl, z3, rfl⟩)
            go_roundw
            case rel => exact ⟨j + 1, by go_num, by rw [Hn.out], by omega, (.of (by repeat (first | exact Ext.refl _ | refine Ext.up ?_ _ | refine Ext.alloc ?_ _ | refine Ext.drew ?_ | refine Ext.setRow ?_ (by first | (dsimp only; omega) | exact LeS.le | exact LeS.add _ | (simp; done) | (simp; omega)) _ | refine Ext.setCell ?_ (by first | (dsimp only; omega) | exact LeS.le | exact LeS.add _ | (simp; done) | (simp; omega)) _)))⟩
            case measure => simp [intOf]; omega
          · have Hn := Lib.hid (lvlAt_yes Hx.out Hy.out Ho.out ((conf_comm x y).trans hcf))
            go_wp2_with (go_at_call 47; refine ((hcf ▸ conflicts_any y x _ Hk1.out Hk2.out)).mono ?_; rintro e w' ⟨rfl, z3, rfl⟩)
            go_roundw
            case rel => exact ⟨j + 1, by go_num, by rw [Hn.out, max_lt], by omega, (.of (by repeat (first | exact Ext.refl _ | refine Ext.up ?_ _ | refine Ext.alloc ?_ _ | refine Ext.drew ?_ | refine Ext.setRow ?_ (by first | (dsimp only; omega) | exact LeS.le | exact LeS.add _ | (simp; done) | (simp; omega)) _ | refine Ext.setCell ?_ (by first | (dsimp only; omega) | exact LeS.le | exact LeS.add _ | (simp; done) | (simp; omega)) _)))⟩
            case measure => simp [intOf]; omega
        · obtain rfl : j = k := by omega
          have hle : (lvlTo l j).length ≤ 10 := by rw [lvlTo_length]; omega
          go_wp2_with (at_builtin; refine wpList_push1 fI rfl (.tmp 39) (.tmp 41) rfl encI w (lvlAt l (lvlTo l j) j j) (lvlTo l j) rfl (Hown.out.up (by repeat (first | exact Ext.refl _ | refine Ext.up ?_ _ | refine Ext.alloc ?_ _ | refine Ext.drew ?_ | refine Ext.setRow ?_ (by first | (dsimp only; omega) | exact LeS.le | exact LeS.add _ | (simp; done) | (simp; omega)) _ | refine Ext.setCell ?_ (by first | (dsimp only; omega) | exact LeS.le | exact LeS.add _ | (simp; done) | (simp; omega)) _))) (by repeat (first | exact Ext.refl _ | refine Ext.up ?_ _ | refine Ext.alloc ?_ _ | refine Ext.drew ?_ | refine Ext.setRow ?_ (by first | (dsimp only; omega) | exact LeS.le | exact LeS.add _ | (simp; done) | (simp; omega)) _ | refine Ext.setCell ?_ (by first | (dsimp only; omega) | exact LeS.le | exact LeS.add _ | (simp; done) | (simp; omega)) _)) rfl (by go_simp) rfl rfl (oneI _) (by omega) (by omega) ?_; intro v1 z4 hown1)
          have hown2 := Lib.hid hown1; clear hown1
          go_wp2_with fail
          go_roundw
          case rel => exact ⟨j + 1, by go_num, by omega, (.of (by repeat (first | exact Ext.refl _ | refine Ext.up ?_ _ | refine Ext.alloc ?_ _ | refine Ext.drew ?_ | refine Ext.setRow ?_ (by first | (dsimp only; omega) | exact LeS.le | exact LeS.add _ | (simp; done) | (simp; omega)) _ | refine Ext.setCell ?_ (by first | (dsimp only; omega) | exact LeS.le | exact LeS.add _ | (simp; done) | (simp; omega)) _))), hown2.out⟩
          case measure => simp [intOf]; omega
    · go_wp2_with fail
      go_ret
      obtain rfl : k = l.length := by omega
      exact ⟨_, rfl, ⟨z, rfl⟩, hown⟩
set_option maxHeartbeats 4000000 in
theorem sLevelsOf_any (l : List Actn) (v : Value) (w : World) (h : SL (RF Actn.enc) 4 w v l) :
    Calls Try.prog 14 #[v] w fun e w' => ∃ v', e = .returned v' ∧ Up w w' ∧ Own encI 3 1 w.heap.size w' v' (lvlR l) := by
  have Hl := Lib.hid h
  obtain ⟨pl, cl, hvl, hll, hcl⟩ := h.open
  subst hvl
  clear h
  rcases ha : actsOk l with _ | _
  · rw [lvlR_no ha]
    by_cases h0 : 0 < l.length
    · have h0' : decide ((0 : Int) < (l.length : Int)) = true := by simpa using h0
      go_enter Try.func14, Try.ntmps14
      go_wp2_with fail
      refine wp_loop_rounds 1 ?_; rw [rounds_succ]
      go_wp2_with (go_at_call 15; refine (sActionsValid_any l _ _ (Hl.out.up (by repeat (first | exact Ext.refl _ | refine Ext.up ?_ _ | refine Ext.alloc ?_ _ | refine Ext.drew ?_ | refine Ext.setRow ?_ (by first | (dsimp only; omega) | exact LeS.le | exact LeS.add _ | (simp; done) | (simp; omega)) _ | refine Ext.setCell ?_ (by first | (dsimp only; omega) | exact LeS.le | exact LeS.add _ | (simp; done) | (simp; omega)) _)))).mono ?_; rintro e w' ⟨rfl, z1, rfl⟩)
      go_ret
      exact ⟨_, rfl, (.of (by repeat (first | exact Ext.refl _ | refine Ext.up ?_ _ | refine Ext.alloc ?_ _ | refine Ext.drew ?_ | refine Ext.setRow ?_ (by first | (dsimp only; omega) | exact LeS.le | exact LeS.add _ | (simp; done) | (simp; omega)) _ | refine Ext.setCell ?_ (by first | (dsimp only; omega) | exact LeS.le | exact LeS.add _ | (simp; done) | (simp; omega)) _))), (Own.lit rfl LeS.le rfl rfl encI_length (Nat.zero_le _)).up ((Ext.refl _).up _)⟩
    · have h0' : decide ((0 : Int) < (l.length : Int)) = false := by simpa using h0
      go_enter Try.func14, Try.ntmps14
      go_wp2_with fail
      refine wp_loop_rounds 1 ?_; rw [rounds_succ]
      go_wp2_with fail
      go_ret
      exact ⟨_, rfl, (.of (by repeat (first | exact Ext.refl _ | refine Ext.up ?_ _ | refine Ext.alloc ?_ _ | refine Ext.drew ?_ | refine Ext.setRow ?_ (by first | (dsimp only; omega) | exact LeS.le | exact LeS.add _ | (simp; done) | (simp; omega)) _ | refine Ext.setCell ?_ (by first | (dsimp only; omega) | exact LeS.le | exact LeS.add _ | (simp; done) | (simp; omega)) _))), Own.lit rfl LeS.le rfl rfl encI_length (Nat.zero_le _)⟩
  rw [lvlR_yes ha]
  have hl10 := actsOk_len ha
  have Ha := Lib.hid ha
  go_enter Try.func14, Try.ntmps14
  go_wp2_with fail
  go_loopw [3, 4, 5, 6] (fun s3 s4 _ _ wr => ∃ k : Nat, s4 = .int .i64 k ∧ k ≤ l.length ∧ Up w wr ∧ Own encI 3 1 w.heap.size wr s3 (lvlTo l k)) (fun _ s4 _ _ _ => l.length - (intOf s4).toNat)
  case atStart => exact ⟨0, rfl, Nat.zero_le _, (.of (by repeat (first | exact Ext.refl _ | refine Ext.up ?_ _ | refine Ext.alloc ?_ _ | refine Ext.drew ?_ | refine Ext.setRow ?_ (by first | (dsimp only; omega) | exact LeS.le | exact LeS.add _ | (simp; done) | (simp; omega)) _ | refine Ext.setCell ?_ (by first | (dsimp only; omega) | exact LeS.le | exact LeS.add _ | (simp; done) | (simp; omega)) _))), Own.lit rfl LeS.le rfl rfl encI_length (Nat.zero_le _)⟩
  case round =>
    obtain ⟨k, rfl, hk, ⟨z, rfl⟩, hown⟩ := hrel
    by_cases hlt : k < l.length
    · obtain ⟨y, hyk⟩ := getElem?_some_of_lt hlt
      obtain ⟨b, off, hp, hb, _⟩ := hcl k y hyk
      obtain ⟨y0, y1, y2, y3⟩ := acell hcl hp hyk
      subst hp
      have Hy := Lib.hid hyk; have Hcl := Lib.hid hcl; have Hown := Lib.hid hown
      have hk0 : (0 : Int) ≤ (k : Int) := by omega
      have hk1 : (k : Int) < l.length := by omega
      clear hyk hcl hown
      go_wp2_with (go_at_call 15; refine (sActionsValid_any l _ _ (Hl.out.up (by repeat (first | exact Ext.refl _ | refine Ext.up ?_ _ | refine Ext.alloc ?_ _ | refine Ext.drew ?_ | refine Ext.setRow ?_ (by first | (dsimp only; omega) | exact LeS.le | exact LeS.add _ | (simp; done) | (simp; omega)) _ | refine Ext.setCell ?_ (by first | (dsimp only; omega) | exact LeS.le | exact LeS.add _ | (simp; done) | (simp; omega)) _)))).mono ?_; rintro e w' ⟨rfl, z1, rfl⟩)
      go_loopw [5, 6] (fun s5 s6 wr => ∃ j : Nat, s6 = .int .i64 j ∧ s5 = .int .i64 (lvlAt l (lvlTo l k) k j) ∧ j ≤ k ∧ Up z1.val wr) (fun _ s6 _ => k - (intOf s6).toNat)
      case atStart => exact ⟨0, rfl, rfl, Nat.zero_le _, (.of (by repeat (first | exact Ext.refl _ | refine Ext.up ?_ _ | refine Ext.alloc ?_ _ | refine Ext.drew ?_ | refine Ext.setRow ?_ (by first | (dsimp only; omega) | exact LeS.le | exact LeS.add _ | (simp; done) | (simp; omega)) _ | refine Ext.setCell ?_ (by first | (dsimp only; omega) | exact LeS.le | exact LeS.add _ | (simp; done) | (simp; omega)) _)))⟩
      case round =>
        obtain ⟨j, rfl, rfl, hj, ⟨z2, rfl⟩⟩ := hrel
        by_cases hjt : j < k
        · obtain ⟨x, hxj⟩ := getElem?_some_of_lt (show j < l.length by omega)
          obtain ⟨x0, x1, x2, x3⟩ := acell Hcl.out rfl hxj
          obtain ⟨o, ho⟩ := getElem?_some_of_lt (l := lvlTo l k) (k := j) (by rw [lvlTo_length]; exact hjt)
          obtain ⟨o0, o1⟩ := lvlTo_in l k o (List.mem_of_getElem? ho)
          obtain ⟨po, co, rfl, _, hco⟩ := (Hown.out.sl encI_length).open
          obtain ⟨g, offg, hpo, hLg, hcg⟩ := hco j o ho
          subst hpo
          have hg : z.val.cell? ⟨g, offg + j, none⟩ = some (.int .i64 o) := by have := hcg 0 _ rfl; simpa using this
          have hok1 := actsOk_at Ha.out Hy.out
          have hok2 := actsOk_at Ha.out hxj
          have hlen : (lvlTo l k).length = k := lvlTo_length l k
          have hjl : (j : Int) < ((lvlTo l k).length : Int) := by omega
          have hj0 : (0 : Int) ≤ (j : Int) := by omega
          have hj1 : (j : Int) < l.length := by omega
          have Hlen := Lib.hid hlen
          have Hk := Lib.hid (conflict_ok hok2 hok1); have Hx := Lib.hid hxj; have Ho := Lib.hid ho
          clear hok1 hok2 hxj ho hco hcg hlen
          rcases hcf : conf x y with _ | _
          · have Hn := Lib.hid (lvlAt_no Hx.out Hy.out Ho.out hcf)
            go_wp2_with fail
            (refine wp_region_up (by kernel_rfl) (by kernel_rfl) ?_; (repeat (go_big_quiet_step ((go_at_call 48; exact Calls.up (((Hk.out.trans hcf) ▸ sConflict_any x y _)))))); refine wpQuiet_nil ?_; intro _ hw'; obtain ⟨zq, hw''⟩ := hw'; subst hw'')
            go_wp2_with fail
            go_roundw
            case rel => exact ⟨j + 1, by go_num, by rw [Hn.out], by omega, (.of (by repeat (first | exact Ext.refl _ | refine Ext.up ?_ _ | refine Ext.alloc ?_ _ | refine Ext.drew ?_ | refine Ext.setRow ?_ (by first | (dsimp only; omega) | exact LeS.le | exact LeS.add _ | (simp; done) | (simp; omega)) _ | refine Ext.setCell ?_ (by first | (dsimp only; omega) | exact LeS.le | exact LeS.add _ | (simp; done) | (simp; omega)) _)))⟩
            case measure => simp [intOf]; omega
          · have Hn := Lib.hid (lvlAt_yes Hx.out Hy.out Ho.out hcf)
            go_wp2_with fail
            (refine wp_region_up (by kernel_rfl) (by kernel_rfl) ?_; (repeat (go_big_quiet_step ((go_at_call 48; exact Calls.up (((Hk.out.trans hcf) ▸ sConflict_any x y _)))))); refine wpQuiet_nil ?_; intro _ hw'; obtain ⟨zq, hw''⟩ := hw'; subst hw'')
            go_wp2_with fail
            go_roundw
            case rel => exact ⟨j + 1, by go_num, by rw [Hn.out, max_lt], by omega, (.of (by repeat (first | exact Ext.refl _ | refine Ext.up ?_ _ | refine Ext.alloc ?_ _ | refine Ext.drew ?_ | refine Ext.setRow ?_ (by first | (dsimp only; omega) | exact LeS.le | exact LeS.add _ | (simp; done) | (simp; omega)) _ | refine Ext.setCell ?_ (by first | (dsimp only; omega) | exact LeS.le | exact LeS.add _ | (simp; done) | (simp; omega)) _)))⟩
            case measure => simp [intOf]; omega
        · obtain rfl : j = k := by omega
          have hle : (lvlTo l j).length ≤ 10 := by rw [lvlTo_length]; omega
          go_wp2_with (at_builtin; refine wpList_push1 fI rfl (.tmp 39) (.tmp 41) rfl encI w (lvlAt l (lvlTo l j) j j) (lvlTo l j) rfl (Hown.out.up (by repeat (first | exact Ext.refl _ | refine Ext.up ?_ _ | refine Ext.alloc ?_ _ | refine Ext.drew ?_ | refine Ext.setRow ?_ (by first | (dsimp only; omega) | exact LeS.le | exact LeS.add _ | (simp; done) | (simp; omega)) _ | refine Ext.setCell ?_ (by first | (dsimp only; omega) | exact LeS.le | exact LeS.add _ | (simp; done) | (simp; omega)) _))) (by repeat (first | exact Ext.refl _ | refine Ext.up ?_ _ | refine Ext.alloc ?_ _ | refine Ext.drew ?_ | refine Ext.setRow ?_ (by first | (dsimp only; omega) | exact LeS.le | exact LeS.add _ | (simp; done) | (simp; omega)) _ | refine Ext.setCell ?_ (by first | (dsimp only; omega) | exact LeS.le | exact LeS.add _ | (simp; done) | (simp; omega)) _)) rfl (by go_simp) rfl rfl (oneI _) (by omega) (by omega) ?_; intro v1 z4 hown1)
          have hown2 := Lib.hid hown1; clear hown1
          go_wp2_with fail
          go_roundw
          case rel => exact ⟨j + 1, by go_num, by omega, (.of (by repeat (first | exact Ext.refl _ | refine Ext.up ?_ _ | refine Ext.alloc ?_ _ | refine Ext.drew ?_ | refine Ext.setRow ?_ (by first | (dsimp only; omega) | exact LeS.le | exact LeS.add _ | (simp; done) | (simp; omega)) _ | refine Ext.setCell ?_ (by first | (dsimp only; omega) | exact LeS.le | exact LeS.add _ | (simp; done) | (simp; omega)) _))), hown2.out⟩
          case measure => simp [intOf]; omega
    · go_wp2_with fail
      go_ret
      obtain rfl : k = l.length := by omega
      exact ⟨_, rfl, ⟨z, rfl⟩, hown⟩
end Go.Proofs.Ytldmigmnbmnaiaa
