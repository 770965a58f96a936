/- Walks: FnExactLevelsOf: levels of actions. -/
import Derived.Test.YtfegehmdgicifaaOrd
import Derived.Test.YtfegehmdgicifaaPush
import Derived.Test.YtfegehmdgicifaaLvlL
namespace Go.Proofs.Ytfegehmdgicifaa
open Go Go.RowKit Go.Proofs

theorem conflict_ok {x y : Actn} (hx : x.ok = true) (hy : y.ok = true) : conflict x y = conf x y := by simp [conflict, hx, hy]
theorem max_lt (a b : Int) : max a b = if a < b then b else a := by split <;> omega
def lvlR (l : List Actn) : List Int := if actsOk l = true then lvlTo l l.length else []
theorem lvlR_no {l : List Actn} (h : actsOk l = false) : lvlR l = [] := by unfold lvlR; rw [h]; rfl
theorem lvlR_yes {l : List Actn} (h : actsOk l = true) : lvlR l = lvlTo l l.length := by unfold lvlR; rw [h]; rfl
theorem lvlR_le (l : List Actn) : (lvlR l).length ≤ 10 := by
  rcases h : actsOk l with _ | _
  · rw [lvlR_no h]; simp
  · rw [lvlR_yes h, lvlTo_length]; exact actsOk_len h
set_option maxHeartbeats 4000000 in
theorem iLevelsOf_any (l : List Actn) (v : Value) (w : World) (h : SL (RF Actn.enc) 4 w v l) :
    Calls Try.prog 18 #[v] w fun e w' => ∃ v', e = .returned v' ∧ Up w w' ∧ Own encI 3 1 w.heap.size w' v' (lvlR l) := by
  have Hl := Lib.hid h
  obtain ⟨pl, cl, hvl, hll, hcl⟩ := h.open
  obtain ⟨_, cl', hvl', _, hlc⟩ := h.openc
  rw [hvl] at hvl'; cases hvl'
  subst hvl
  clear h
  rcases ha : actsOk l with _ | _
  · rw [lvlR_no ha]
    go_enter Try.func18, Try.ntmps18
    go_wp2_with (go_at_call 76; refine (iActionsValid_any l _ _ Hl.out).mono ?_; rintro e w' ⟨rfl, z1, rfl⟩)
    go_ret
    exact ⟨_, rfl, (.of (by repeat (first | exact Ext.refl _ | refine Ext.up ?_ _ | refine Ext.alloc ?_ _ | refine Ext.drew ?_ | refine Ext.setRow ?_ (by first | (dsimp only; omega) | exact LeS.le | exact LeS.add _ | (simp; done) | (simp; omega)) _ | refine Ext.setCell ?_ (by first | (dsimp only; omega) | exact LeS.le | exact LeS.add _ | (simp; done) | (simp; omega)) _))), Own.nil _ _ _ _ _⟩
  rw [lvlR_yes ha]
  have hl10 := actsOk_len ha
  have Ha := Lib.hid ha
  go_enter Try.func18, Try.ntmps18
  go_wp2_with (go_at_call 76; refine (iActionsValid_any l _ _ Hl.out).mono ?_; rintro e w' ⟨rfl, z1, rfl⟩)
  go_loopw [3, 4, 5, 6, 7, 8, 14] (fun s3 _ _ _ _ _ s14 wr => ∃ k : Nat, s14 = .int .i64 k ∧ k ≤ l.length ∧ Up w wr ∧ Own encI 3 1 w.heap.size wr s3 (lvlTo l k)) (fun _ _ _ _ _ _ s14 _ => l.length - (intOf s14).toNat)
  case atStart => exact ⟨0, rfl, Nat.zero_le _, (.of (by repeat (first | exact Ext.refl _ | refine Ext.up ?_ _ | refine Ext.alloc ?_ _ | refine Ext.drew ?_ | refine Ext.setRow ?_ (by first | (dsimp only; omega) | exact LeS.le | exact LeS.add _ | (simp; done) | (simp; omega)) _ | refine Ext.setCell ?_ (by first | (dsimp only; omega) | exact LeS.le | exact LeS.add _ | (simp; done) | (simp; omega)) _))), Own.nil _ _ _ _ _⟩
  case round =>
    obtain ⟨k, rfl, hk, ⟨z, rfl⟩, hown⟩ := hrel
    by_cases hlt : k < l.length
    · obtain ⟨y, hyk⟩ := getElem?_some_of_lt hlt
      obtain ⟨b, off, hp, hb, _⟩ := hcl k y hyk
      obtain ⟨y0, y1, y2, y3⟩ := acell hcl hp hyk
      subst hp
      have Hy := Lib.hid hyk; have Hcl := Lib.hid hcl; have Hown := Lib.hid hown
      have hkc : (k : Int) ≤ (cl : Int) := by omega
      have hk0 : (0 : Int) ≤ (k : Int) := by omega
      clear hyk hcl hown
      go_wp2_with fail
      go_loopw [6, 7, 8, 23] (fun s6 _ _ s23 wr => ∃ j : Nat, s23 = .int .i64 j ∧ s6 = .int .i64 (lvlAt l (lvlTo l k) k j) ∧ j ≤ k ∧ Up (z.val.alloc (.cells #[.int .i64 y.kind, .int .i64 y.src, .int .i64 y.dst, .int .i64 y.amt] 98)) wr) (fun _ _ _ s23 _ => k - (intOf s23).toNat)
      case atStart => exact ⟨0, rfl, rfl, Nat.zero_le _, (.of (by repeat (first | exact Ext.refl _ | refine Ext.up ?_ _ | refine Ext.alloc ?_ _ | refine Ext.drew ?_ | refine Ext.setRow ?_ (by first | (dsimp only; omega) | exact LeS.le | exact LeS.add _ | (simp; done) | (simp; omega)) _ | refine Ext.setCell ?_ (by first | (dsimp only; omega) | exact LeS.le | exact LeS.add _ | (simp; done) | (simp; omega)) _)))⟩
      case round =>
        obtain ⟨j, rfl, rfl, hj, ⟨z2, rfl⟩⟩ := hrel
        by_cases hjt : j < k
        · obtain ⟨x, hxj⟩ := getElem?_some_of_lt (show j < l.length by omega)
          obtain ⟨x0, x1, x2, x3⟩ := acell Hcl.out rfl hxj
          obtain ⟨o, ho⟩ := getElem?_some_of_lt (l := lvlTo l k) (k := j) (by rw [lvlTo_length]; exact hjt)
          obtain ⟨o0, o1⟩ := lvlTo_in l k o (List.mem_of_getElem? ho)
          obtain ⟨po, co, rfl, _, hco⟩ := (Hown.out.sl encI_length).open
          obtain ⟨g, offg, hpo, hLg, hcg⟩ := hco j o ho
          subst hpo
          have hg : z.val.cell? ⟨g, offg + j, none⟩ = some (.int .i64 o) := by have := hcg 0 _ rfl; simpa using this
          have hok1 := actsOk_at Ha.out Hy.out
          have hok2 := actsOk_at Ha.out hxj
          have hlen : (lvlTo l k).length = k := lvlTo_length l k
          have hjl : (j : Int) < ((lvlTo l k).length : Int) := by omega
          have Hlen := Lib.hid hlen
          have Hk1 := Lib.hid hok1; have Hk2 := Lib.hid hok2; have Hx := Lib.hid hxj; have Ho := Lib.hid ho
          clear hok1 hok2 hxj ho hco hcg hlen
          rcases hcf : conf y x with _ | _
          · have Hn := Lib.hid (lvlAt_no Hx.out Hy.out Ho.out ((conf_comm x y).trans hcf))
            go_wp2_with (go_at_call 77; refine ((hcf ▸ conflicts_any y x _ Hk1.out Hk2.out)).mono ?_; rintro e w' ⟨rfl, z3, rfl⟩)
            go_roundw
            case rel => exact ⟨j + 1, by go_num, by rw [Hn.out], by omega, (.of (by repeat (first | exact Ext.refl _ | refine Ext.up ?_ _ | refine Ext.alloc ?_ _ | refine Ext.drew ?_ | refine Ext.setRow ?_ (by first | (dsimp only; omega) | exact LeS.le | exact LeS.add _ | (simp; done) | (simp; omega)) _ | refine Ext.setCell ?_ (by first | (dsimp only; omega) | exact LeS.le | exact LeS.add _ | (simp; done) | (simp; omega)) _)))⟩
            case measure => simp [intOf]; omega
          · have Hn := Lib.hid (lvlAt_yes Hx.out Hy.out Ho.out ((conf_comm x y).trans hcf))
            go_wp2_with (go_at_call 77; refine ((hcf ▸ conflicts_any y x _ Hk1.out Hk2.out)).mono ?_; rintro e w' ⟨rfl, z3, rfl⟩)
            go_roundw
            case rel => exact ⟨j + 1, by go_num, by rw [Hn.out, max_lt], by omega, (.of (by repeat (first | exact Ext.refl _ | refine Ext.up ?_ _ | refine Ext.alloc ?_ _ | refine Ext.drew ?_ | refine Ext.setRow ?_ (by first | (dsimp only; omega) | exact LeS.le | exact LeS.add _ | (simp; done) | (simp; omega)) _ | refine Ext.setCell ?_ (by first | (dsimp only; omega) | exact LeS.le | exact LeS.add _ | (simp; done) | (simp; omega)) _)))⟩
            case measure => simp [intOf]; omega
        · obtain rfl : j = k := by omega
          have hle : (lvlTo l j).length ≤ 10 := by rw [lvlTo_length]; omega
          go_wp2_with (at_builtin; refine wpList_push1 fI rfl (.tmp 39) (.tmp 41) rfl encI w (lvlAt l (lvlTo l j) j j) (lvlTo l j) rfl (Hown.out.up (by repeat (first | exact Ext.refl _ | refine Ext.up ?_ _ | refine Ext.alloc ?_ _ | refine Ext.drew ?_ | refine Ext.setRow ?_ (by first | (dsimp only; omega) | exact LeS.le | exact LeS.add _ | (simp; done) | (simp; omega)) _ | refine Ext.setCell ?_ (by first | (dsimp only; omega) | exact LeS.le | exact LeS.add _ | (simp; done) | (simp; omega)) _))) (by repeat (first | exact Ext.refl _ | refine Ext.up ?_ _ | refine Ext.alloc ?_ _ | refine Ext.drew ?_ | refine Ext.setRow ?_ (by first | (dsimp only; omega) | exact LeS.le | exact LeS.add _ | (simp; done) | (simp; omega)) _ | refine Ext.setCell ?_ (by first | (dsimp only; omega) | exact LeS.le | exact LeS.add _ | (simp; done) | (simp; omega)) _)) rfl (by go_simp) rfl rfl (oneI _) (by omega) (by omega) ?_; intro v1 z4 hown1)
          have hown2 := Lib.hid hown1; clear hown1
          go_wp2_with fail
          go_roundw
          case rel => exact ⟨j + 1, by go_num, by omega, (.of (by repeat (first | exact Ext.refl _ | refine Ext.up ?_ _ | refine Ext.alloc ?_ _ | refine Ext.drew ?_ | refine Ext.setRow ?_ (by first | (dsimp only; omega) | exact LeS.le | exact LeS.add _ | (simp; done) | (simp; omega)) _ | refine Ext.setCell ?_ (by first | (dsimp only; omega) | exact LeS.le | exact LeS.add _ | (simp; done) | (simp; omega)) _))), hown2.out⟩
          case measure => simp [intOf]; omega
    · go_wp2_with fail
      go_ret
      obtain rfl : k = l.length := by omega
      exact ⟨_, rfl, ⟨z, rfl⟩, hown⟩
set_option maxHeartbeats 4000000 in
theorem sLevelsOf_any (l : List Actn) (v : Value) (w : World) (h : SL (RF Actn.enc) 4 w v l) :
    Calls Try.prog 16 #[v] w fun e w' => ∃ v', e = .returned v' ∧ Up w w' ∧ Own encI 3 1 w.heap.size w' v' (lvlR l) := by
  have Hl := Lib.hid h
  obtain ⟨pl, cl, hvl, hll, hcl⟩ := h.open
  subst hvl
  clear h
  rcases ha : actsOk l with _ | _
  · rw [lvlR_no ha]
    by_cases h0 : 0 < l.length
    · have h0' : decide ((0 : Int) < (l.length : Int)) = true := by simpa using h0
      go_enter Try.func16, Try.ntmps16
      go_wp2_with fail
      refine wp_loop_rounds 1 ?_; rw [rounds_succ]
      go_wp2_with (go_at_call 73; refine (sActionsValid_any l _ _ (Hl.out.up (by repeat (first | exact Ext.refl _ | refine Ext.up ?_ _ | refine Ext.alloc ?_ _ | refine Ext.drew ?_ | refine Ext.setRow ?_ (by first | (dsimp only; omega) | exact LeS.le | exact LeS.add _ | (simp; done) | (simp; omega)) _ | refine Ext.setCell ?_ (by first | (dsimp only; omega) | exact LeS.le | exact LeS.add _ | (simp; done) | (simp; omega)) _)))).mono ?_; rintro e w' ⟨rfl, z1, rfl⟩)
      go_ret
      exact ⟨_, rfl, (.of (by repeat (first | exact Ext.refl _ | refine Ext.up ?_ _ | refine Ext.alloc ?_ _ | refine Ext.drew ?_ | refine Ext.setRow ?_ (by first | (dsimp only; omega) | exact LeS.le | exact LeS.add _ | (simp; done) | (simp; omega)) _ | refine Ext.setCell ?_ (by first | (dsimp only; omega) | exact LeS.le | exact LeS.add _ | (simp; done) | (simp; omega)) _))), (Own.lit rfl LeS.le rfl rfl encI_length (Nat.zero_le _)).up ((Ext.refl _).up _)⟩
    · have h0' : decide ((0 : Int) < (l.length : Int)) = false := by simpa using h0
      go_enter Try.func16, Try.ntmps16
      go_wp2_with fail
      refine wp_loop_rounds 1 ?_; rw [rounds_succ]
      go_wp2_with fail
      go_ret
      exact ⟨_, rfl, (.of (by repeat (first | exact Ext.refl _ | refine Ext.up ?_ _ | refine Ext.alloc ?_ _ | refine Ext.drew ?_ | refine Ext.setRow ?_ (by first | (dsimp only; omega) | exact LeS.le | exact LeS.add _ | (simp; done) | (simp; omega)) _ | refine Ext.setCell ?_ (by first | (dsimp only; omega) | exact LeS.le | exact LeS.add _ | (simp; done) | (simp; omega)) _))), Own.lit rfl LeS.le rfl rfl encI_length (Nat.zero_le _)⟩
  rw [lvlR_yes ha]
  have hl10 := actsOk_len ha
  have Ha := Lib.hid ha
  go_enter Try.func16, Try.ntmps16
  go_wp2_with fail
  go_loopw [3, 4, 5, 6] (fun s3 s4 _ _ wr => ∃ k : Nat, s4 = .int .i64 k ∧ k ≤ l.length ∧ Up w wr ∧ Own encI 3 1 w.heap.size wr s3 (lvlTo l k)) (fun _ s4 _ _ _ => l.length - (intOf s4).toNat)
  case atStart => exact ⟨0, rfl, Nat.zero_le _, (.of (by repeat (first | exact Ext.refl _ | refine Ext.up ?_ _ | refine Ext.alloc ?_ _ | refine Ext.drew ?_ | refine Ext.setRow ?_ (by first | (dsimp only; omega) | exact LeS.le | exact LeS.add _ | (simp; done) | (simp; omega)) _ | refine Ext.setCell ?_ (by first | (dsimp only; omega) | exact LeS.le | exact LeS.add _ | (simp; done) | (simp; omega)) _))), Own.lit rfl LeS.le rfl rfl encI_length (Nat.zero_le _)⟩
  case round =>
    obtain ⟨k, rfl, hk, ⟨z, rfl⟩, hown⟩ := hrel
    by_cases hlt : k < l.length
    · obtain ⟨y, hyk⟩ := getElem?_some_of_lt hlt
      obtain ⟨b, off, hp, hb, _⟩ := hcl k y hyk
      obtain ⟨y0, y1, y2, y3⟩ := acell hcl hp hyk
      subst hp
      have Hy := Lib.hid hyk; have Hcl := Lib.hid hcl; have Hown := Lib.hid hown
      have hk0 : (0 : Int) ≤ (k : Int) := by omega
      have hk1 : (k : Int) < l.length := by omega
      clear hyk hcl hown
      go_wp2_with (go_at_call 73; refine (sActionsValid_any l _ _ (Hl.out.up (by repeat (first | exact Ext.refl _ | refine Ext.up ?_ _ | refine Ext.alloc ?_ _ | refine Ext.drew ?_ | refine Ext.setRow ?_ (by first | (dsimp only; omega) | exact LeS.le | exact LeS.add _ | (simp; done) | (simp; omega)) _ | refine Ext.setCell ?_ (by first | (dsimp only; omega) | exact LeS.le | exact LeS.add _ | (simp; done) | (simp; omega)) _)))).mono ?_; rintro e w' ⟨rfl, z1, rfl⟩)
      go_loopw [5, 6] (fun s5 s6 wr => ∃ j : Nat, s6 = .int .i64 j ∧ s5 = .int .i64 (lvlAt l (lvlTo l k) k j) ∧ j ≤ k ∧ Up z1.val wr) (fun _ s6 _ => k - (intOf s6).toNat)
      case atStart => exact ⟨0, rfl, rfl, Nat.zero_le _, (.of (by repeat (first | exact Ext.refl _ | refine Ext.up ?_ _ | refine Ext.alloc ?_ _ | refine Ext.drew ?_ | refine Ext.setRow ?_ (by first | (dsimp only; omega) | exact LeS.le | exact LeS.add _ | (simp; done) | (simp; omega)) _ | refine Ext.setCell ?_ (by first | (dsimp only; omega) | exact LeS.le | exact LeS.add _ | (simp; done) | (simp; omega)) _)))⟩
      case round =>
        obtain ⟨j, rfl, rfl, hj, ⟨z2, rfl⟩⟩ := hrel
        by_cases hjt : j < k
        · obtain ⟨x, hxj⟩ := getElem?_some_of_lt (show j < l.length by omega)
          obtain ⟨x0, x1, x2, x3⟩ := acell Hcl.out rfl hxj
          obtain ⟨o, ho⟩ := getElem?_some_of_lt (l := lvlTo l k) (k := j) (by rw [lvlTo_length]; exact hjt)
          obtain ⟨o0, o1⟩ := lvlTo_in l k o (List.mem_of_getElem? ho)
          obtain ⟨po, co, rfl, _, hco⟩ := (Hown.out.sl encI_length).open
          obtain ⟨g, offg, hpo, hLg, hcg⟩ := hco j o ho
          subst hpo
          have hg : z.val.cell? ⟨g, offg + j, none⟩ = some (.int .i64 o) := by have := hcg 0 _ rfl; simpa using this
          have hok1 := actsOk_at Ha.out Hy.out
          have hok2 := actsOk_at Ha.out hxj
          have hlen : (lvlTo l k).length = k := lvlTo_length l k
          have hjl : (j : Int) < ((lvlTo l k).length : Int) := by omega
          have hj0 : (0 : Int) ≤ (j : Int) := by omega
          have hj1 : (j : Int) < l.length := by omega
          have Hlen := Lib.hid hlen
          have Hk := Lib.hid (conflict_ok hok2 hok1); have Hx := Lib.hid hxj; have Ho := Lib.hid ho
          clear hok1 hok2 hxj ho hco hcg hlen
          rcases hcf : conf x y with _ | _
          · have Hn := Lib.hid (lvlAt_no Hx.out Hy.out Ho.out hcf)
            go_wp2_with fail
            (refine wp_region_up (by kernel_rfl) (by kernel_rfl) ?_; (repeat (go_big_quiet_step ((go_at_call 74; exact Calls.up (((Hk.out.trans hcf) ▸ sConflict_any x y _)))))); refine wpQuiet_nil ?_; intro _ hw'; obtain ⟨zq, hw''⟩ := hw'; subst hw'')
            go_wp2_with fail
            go_roundw
            case rel => exact ⟨j + 1, by go_num, by rw [Hn.out], by omega, (.of (by repeat (first | exact Ext.refl _ | refine Ext.up ?_ _ | refine Ext.alloc ?_ _ | refine Ext.drew ?_ | refine Ext.setRow ?_ (by first | (dsimp only; omega) | exact LeS.le | exact LeS.add _ | (simp; done) | (simp; omega)) _ | refine Ext.setCell ?_ (by first | (dsimp only; omega) | exact LeS.le | exact LeS.add _ | (simp; done) | (simp; omega)) _)))⟩
            case measure => simp [intOf]; omega
          · have Hn := Lib.hid (lvlAt_yes Hx.out Hy.out Ho.out hcf)
            go_wp2_with fail
            (refine wp_region_up (by kernel_rfl) (by kernel_rfl) ?_; (repeat (go_big_quiet_step ((go_at_call 74; exact Calls.up (((Hk.out.trans hcf) ▸ sConflict_any x y _)))))); refine wpQuiet_nil ?_; intro _ hw'; obtain ⟨zq, hw''⟩ := hw'; subst hw'')
            go_wp2_with fail
            go_roundw
            case rel => exact ⟨j + 1, by go_num, by rw [Hn.out, max_lt], by omega, (.of (by repeat (first | exact Ext.refl _ | refine Ext.up ?_ _ | refine Ext.alloc ?_ _ | refine Ext.drew ?_ | refine Ext.setRow ?_ (by first | (dsimp only; omega) | exact LeS.le | exact LeS.add _ | (simp; done) | (simp; omega)) _ | refine Ext.setCell ?_ (by first | (dsimp only; omega) | exact LeS.le | exact LeS.add _ | (simp; done) | (simp; omega)) _)))⟩
            case measure => simp [intOf]; omega
        · obtain rfl : j = k := by omega
          have hle : (lvlTo l j).length ≤ 10 := by rw [lvlTo_length]; omega
          go_wp2_with (at_builtin; refine wpList_push1 fI rfl (.tmp 39) (.tmp 41) rfl encI w (lvlAt l (lvlTo l j) j j) (lvlTo l j) rfl (Hown.out.up (by repeat (first | exact Ext.refl _ | refine Ext.up ?_ _ | refine Ext.alloc ?_ _ | refine Ext.drew ?_ | refine Ext.setRow ?_ (by first | (dsimp only; omega) | exact LeS.le | exact LeS.add _ | (simp; done) | (simp; omega)) _ | refine Ext.setCell ?_ (by first | (dsimp only; omega) | exact LeS.le | exact LeS.add _ | (simp; done) | (simp; omega)) _))) (by repeat (first | exact Ext.refl _ | refine Ext.up ?_ _ | refine Ext.alloc ?_ _ | refine Ext.drew ?_ | refine Ext.setRow ?_ (by first | (dsimp only; omega) | exact LeS.le | exact LeS.add _ | (simp; done) | (simp; omega)) _ | refine Ext.setCell ?_ (by first | (dsimp only; omega) | exact LeS.le | exact LeS.add _ | (simp; done) | (simp; omega)) _)) rfl (by go_simp) rfl rfl (oneI _) (by omega) (by omega) ?_; intro v1 z4 hown1)
          have hown2 := Lib.hid hown1; clear hown1
          go_wp2_with fail
          go_roundw
          case rel => exact ⟨j + 1, by go_num, by omega, (.of (by repeat (first | exact Ext.refl _ | refine Ext.up ?_ _ | refine Ext.alloc ?_ _ | refine Ext.drew ?_ | refine Ext.setRow ?_ (by first | (dsimp only; omega) | exact LeS.le | exact LeS.add _ | (simp; done) | (simp; omega)) _ | refine Ext.setCell ?_ (by first | (dsimp only; omega) | exact LeS.le | exact LeS.add _ | (simp; done) | (simp; omega)) _))), hown2.out⟩
          case measure => simp [intOf]; omega
    · go_wp2_with fail
      go_ret
      obtain rfl : k = l.length := by omega
      exact ⟨_, rfl, ⟨z, rfl⟩, hown⟩
set_option maxHeartbeats 4000000 in
theorem FnExactLevelsOf_any (l : List Actn) (v_l : Value) (w : World) (h_l : SL (RF Actn.enc) 4 w v_l l) :
    Calls Try.prog 3 #[v_l] w fun e w' => e = .returned (.bool true) ∧ Up w w' := by
  have H_l := Lib.hid h_l; clear h_l
  by_cases hz1 : szOf 1048576 l.length < 0
  · go_enter Try.func3, Try.ntmps3
    go_wp2_with fail
    refine (szActionS_any l _ 1048576 _ H_l.out (by omega) (by omega)).mono ?_; rintro e w' ⟨rfl, rfl⟩
    go_wp2_with fail
    go_ret
    exact ⟨rfl, (.of (by repeat (first | exact Ext.refl _ | refine Ext.up ?_ _ | refine Ext.alloc ?_ _ | refine Ext.drew ?_ | refine Ext.setRow ?_ (by first | (dsimp only; omega) | exact LeS.le | exact LeS.add _ | (simp; done) | (simp; omega)) _ | refine Ext.setCell ?_ (by first | (dsimp only; omega) | exact LeS.le | exact LeS.add _ | (simp; done) | (simp; omega)) _)))⟩
  have hn_l := szOf_le hz1
  have hq1 := szOf_eq hz1
  generalize hg1 : szOf 1048576 l.length = c1 at hz1 hq1
  have Hg1 := Lib.hid hg1; clear hg1
  have hc1 : 0 ≤ c1 ∧ c1 ≤ 1048576 := by omega
  obtain ⟨hc1a, hc1b⟩ := hc1
  have hm_l : l.length ≤ 1048576 := by omega
  clear hn_l hq1
  have hd0 := lvlR_le l
  generalize hD0 : lvlR l = D0 at hd0
  have HD0 := Lib.hid hD0; clear hD0
  go_enter Try.func3, Try.ntmps3
  go_wp2_with fail
  refine (szActionS_any l _ 1048576 _ H_l.out (by omega) (by omega)).mono ?_; rintro e w' ⟨rfl, rfl⟩
  rw [Hg1.out]
  go_wp2_with fail
  refine (toActionS_any l _ _ (H_l.out.up (by repeat (first | exact Ext.refl _ | refine Ext.up ?_ _ | refine Ext.alloc ?_ _ | refine Ext.drew ?_ | refine Ext.setRow ?_ (by first | (dsimp only; omega) | exact LeS.le | exact LeS.add _ | (simp; done) | (simp; omega)) _ | refine Ext.setCell ?_ (by first | (dsimp only; omega) | exact LeS.le | exact LeS.add _ | (simp; done) | (simp; omega)) _))) hm_l).mono ?_; rintro e w' ⟨y1, rfl, ⟨z1, rfl⟩, o1⟩
  have O1 := Lib.hid o1; clear o1
  go_wp2_with fail
  refine (sLevelsOf_any l _  _ ((O1.out.up (by repeat (first | exact Ext.refl _ | refine Ext.up ?_ _ | refine Ext.alloc ?_ _ | refine Ext.drew ?_ | refine Ext.setRow ?_ (by first | (dsimp only; omega) | exact LeS.le | exact LeS.add _ | (simp; done) | (simp; omega)) _ | refine Ext.setCell ?_ (by first | (dsimp only; omega) | exact LeS.le | exact LeS.add _ | (simp; done) | (simp; omega)) _))).sl Actn.enc_length)).mono ?_; rintro e w' ⟨y2, rfl, ⟨z2, rfl⟩, o2⟩
  (try rw [HD0.out] at o2)
  have O2 := Lib.hid o2; clear o2
  go_wp2_with fail
  refine (toActionS_any l _ _ (H_l.out.up (by repeat (first | exact Ext.refl _ | refine Ext.up ?_ _ | refine Ext.alloc ?_ _ | refine Ext.drew ?_ | refine Ext.setRow ?_ (by first | (dsimp only; omega) | exact LeS.le | exact LeS.add _ | (simp; done) | (simp; omega)) _ | refine Ext.setCell ?_ (by first | (dsimp only; omega) | exact LeS.le | exact LeS.add _ | (simp; done) | (simp; omega)) _))) hm_l).mono ?_; rintro e w' ⟨y3, rfl, ⟨z3, rfl⟩, o3⟩
  have O3 := Lib.hid o3; clear o3
  go_wp2_with fail
  refine (iLevelsOf_any l _  _ ((O3.out.up (by repeat (first | exact Ext.refl _ | refine Ext.up ?_ _ | refine Ext.alloc ?_ _ | refine Ext.drew ?_ | refine Ext.setRow ?_ (by first | (dsimp only; omega) | exact LeS.le | exact LeS.add _ | (simp; done) | (simp; omega)) _ | refine Ext.setCell ?_ (by first | (dsimp only; omega) | exact LeS.le | exact LeS.add _ | (simp; done) | (simp; omega)) _))).sl Actn.enc_length)).mono ?_; rintro e w' ⟨y4, rfl, ⟨z4, rfl⟩, o4⟩
  (try rw [HD0.out] at o4)
  have O4 := Lib.hid o4; clear o4
  go_wp2_with fail
  refine (eqIntS_same D0 _ _ _ ((O4.out.up (by repeat (first | exact Ext.refl _ | refine Ext.up ?_ _ | refine Ext.alloc ?_ _ | refine Ext.drew ?_ | refine Ext.setRow ?_ (by first | (dsimp only; omega) | exact LeS.le | exact LeS.add _ | (simp; done) | (simp; omega)) _ | refine Ext.setCell ?_ (by first | (dsimp only; omega) | exact LeS.le | exact LeS.add _ | (simp; done) | (simp; omega)) _))).sl encI_length) ((O2.out.up (by repeat (first | exact Ext.refl _ | refine Ext.up ?_ _ | refine Ext.alloc ?_ _ | refine Ext.drew ?_ | refine Ext.setRow ?_ (by first | (dsimp only; omega) | exact LeS.le | exact LeS.add _ | (simp; done) | (simp; omega)) _ | refine Ext.setCell ?_ (by first | (dsimp only; omega) | exact LeS.le | exact LeS.add _ | (simp; done) | (simp; omega)) _))).sl encI_length)).mono ?_; rintro e w' ⟨rfl, ⟨z5, rfl⟩⟩
  go_wp2_with fail
  refine (toActionS_any l _ _ (H_l.out.up (by repeat (first | exact Ext.refl _ | refine Ext.up ?_ _ | refine Ext.alloc ?_ _ | refine Ext.drew ?_ | refine Ext.setRow ?_ (by first | (dsimp only; omega) | exact LeS.le | exact LeS.add _ | (simp; done) | (simp; omega)) _ | refine Ext.setCell ?_ (by first | (dsimp only; omega) | exact LeS.le | exact LeS.add _ | (simp; done) | (simp; omega)) _))) hm_l).mono ?_; rintro e w' ⟨y6, rfl, ⟨z6, rfl⟩, o6⟩
  have O6 := Lib.hid o6; clear o6
  go_wp2_with fail
  refine (eqActionS_same l _ _ _ ((O3.out.up (by repeat (first | exact Ext.refl _ | refine Ext.up ?_ _ | refine Ext.alloc ?_ _ | refine Ext.drew ?_ | refine Ext.setRow ?_ (by first | (dsimp only; omega) | exact LeS.le | exact LeS.add _ | (simp; done) | (simp; omega)) _ | refine Ext.setCell ?_ (by first | (dsimp only; omega) | exact LeS.le | exact LeS.add _ | (simp; done) | (simp; omega)) _))).sl Actn.enc_length) ((O6.out.up (by repeat (first | exact Ext.refl _ | refine Ext.up ?_ _ | refine Ext.alloc ?_ _ | refine Ext.drew ?_ | refine Ext.setRow ?_ (by first | (dsimp only; omega) | exact LeS.le | exact LeS.add _ | (simp; done) | (simp; omega)) _ | refine Ext.setCell ?_ (by first | (dsimp only; omega) | exact LeS.le | exact LeS.add _ | (simp; done) | (simp; omega)) _))).sl Actn.enc_length)).mono ?_; rintro e w' ⟨rfl, ⟨z7, rfl⟩⟩
  go_wp2_with fail
  refine (markActionS_any _ l _ _ _ (O3.out.up (by repeat (first | exact Ext.refl _ | refine Ext.up ?_ _ | refine Ext.alloc ?_ _ | refine Ext.drew ?_ | refine Ext.setRow ?_ (by first | (dsimp only; omega) | exact LeS.le | exact LeS.add _ | (simp; done) | (simp; omega)) _ | refine Ext.setCell ?_ (by first | (dsimp only; omega) | exact LeS.le | exact LeS.add _ | (simp; done) | (simp; omega)) _))) (by omega) (by omega) (by omega)).mono ?_; rintro e w8 ⟨rfl, hg108, om8⟩
  have E8 : Ext w w8 := Own.ext_grown (O3.out.up (by repeat (first | exact Ext.refl _ | refine Ext.up ?_ _ | refine Ext.alloc ?_ _ | refine Ext.drew ?_ | refine Ext.setRow ?_ (by first | (dsimp only; omega) | exact LeS.le | exact LeS.add _ | (simp; done) | (simp; omega)) _ | refine Ext.setCell ?_ (by first | (dsimp only; omega) | exact LeS.le | exact LeS.add _ | (simp; done) | (simp; omega)) _))) (by repeat (first | exact Ext.refl _ | refine Ext.up ?_ _ | refine Ext.alloc ?_ _ | refine Ext.drew ?_ | refine Ext.setRow ?_ (by first | (dsimp only; omega) | exact LeS.le | exact LeS.add _ | (simp; done) | (simp; omega)) _ | refine Ext.setCell ?_ (by first | (dsimp only; omega) | exact LeS.le | exact LeS.add _ | (simp; done) | (simp; omega)) _)) LeS.le hg108
  have O2_8 := Lib.hid (Own.kept (O2.out.up (by repeat (first | exact Ext.refl _ | refine Ext.up ?_ _ | refine Ext.alloc ?_ _ | refine Ext.drew ?_ | refine Ext.setRow ?_ (by first | (dsimp only; omega) | exact LeS.le | exact LeS.add _ | (simp; done) | (simp; omega)) _ | refine Ext.setCell ?_ (by first | (dsimp only; omega) | exact LeS.le | exact LeS.add _ | (simp; done) | (simp; omega)) _))) hg108 ((Own.apart O2.out O3.out LeS.le).symm))
  have O4_8 := Lib.hid (Own.kept (O4.out.up (by repeat (first | exact Ext.refl _ | refine Ext.up ?_ _ | refine Ext.alloc ?_ _ | refine Ext.drew ?_ | refine Ext.setRow ?_ (by first | (dsimp only; omega) | exact LeS.le | exact LeS.add _ | (simp; done) | (simp; omega)) _ | refine Ext.setCell ?_ (by first | (dsimp only; omega) | exact LeS.le | exact LeS.add _ | (simp; done) | (simp; omega)) _))) hg108 (Own.after O4.out O3.out LeS.le))
  clear hg108
  obtain ⟨z8, rfl⟩ := Up.of E8
  go_wp2_with fail
  refine (eqIntS_same D0 _ _ _ ((O4_8.out.up (by repeat (first | exact Ext.refl _ | refine Ext.up ?_ _ | refine Ext.alloc ?_ _ | refine Ext.drew ?_ | refine Ext.setRow ?_ (by first | (dsimp only; omega) | exact LeS.le | exact LeS.add _ | (simp; done) | (simp; omega)) _ | refine Ext.setCell ?_ (by first | (dsimp only; omega) | exact LeS.le | exact LeS.add _ | (simp; done) | (simp; omega)) _))).sl encI_length) ((O2_8.out.up (by repeat (first | exact Ext.refl _ | refine Ext.up ?_ _ | refine Ext.alloc ?_ _ | refine Ext.drew ?_ | refine Ext.setRow ?_ (by first | (dsimp only; omega) | exact LeS.le | exact LeS.add _ | (simp; done) | (simp; omega)) _ | refine Ext.setCell ?_ (by first | (dsimp only; omega) | exact LeS.le | exact LeS.add _ | (simp; done) | (simp; omega)) _))).sl encI_length)).mono ?_; rintro e w' ⟨rfl, ⟨z9, rfl⟩⟩
  go_wp2_with fail
  refine (markIntS_any _ D0 _ _ _ (O4_8.out.up (by repeat (first | exact Ext.refl _ | refine Ext.up ?_ _ | refine Ext.alloc ?_ _ | refine Ext.drew ?_ | refine Ext.setRow ?_ (by first | (dsimp only; omega) | exact LeS.le | exact LeS.add _ | (simp; done) | (simp; omega)) _ | refine Ext.setCell ?_ (by first | (dsimp only; omega) | exact LeS.le | exact LeS.add _ | (simp; done) | (simp; omega)) _))) (by omega) (by omega) (by omega)).mono ?_; rintro e w10 ⟨rfl, hg110, om10⟩
  have E10 : Ext w w10 := Own.ext_grown (O4_8.out.up (by repeat (first | exact Ext.refl _ | refine Ext.up ?_ _ | refine Ext.alloc ?_ _ | refine Ext.drew ?_ | refine Ext.setRow ?_ (by first | (dsimp only; omega) | exact LeS.le | exact LeS.add _ | (simp; done) | (simp; omega)) _ | refine Ext.setCell ?_ (by first | (dsimp only; omega) | exact LeS.le | exact LeS.add _ | (simp; done) | (simp; omega)) _))) (by repeat (first | exact Ext.refl _ | refine Ext.up ?_ _ | refine Ext.alloc ?_ _ | refine Ext.drew ?_ | refine Ext.setRow ?_ (by first | (dsimp only; omega) | exact LeS.le | exact LeS.add _ | (simp; done) | (simp; omega)) _ | refine Ext.setCell ?_ (by first | (dsimp only; omega) | exact LeS.le | exact LeS.add _ | (simp; done) | (simp; omega)) _)) LeS.le hg110
  have O2_10 := Lib.hid (Own.kept (O2_8.out.up (by repeat (first | exact Ext.refl _ | refine Ext.up ?_ _ | refine Ext.alloc ?_ _ | refine Ext.drew ?_ | refine Ext.setRow ?_ (by first | (dsimp only; omega) | exact LeS.le | exact LeS.add _ | (simp; done) | (simp; omega)) _ | refine Ext.setCell ?_ (by first | (dsimp only; omega) | exact LeS.le | exact LeS.add _ | (simp; done) | (simp; omega)) _))) hg110 ((Own.apart O2.out O4.out LeS.le).symm))
  have OM10 := Lib.hid om10; clear om10
  clear hg110
  obtain ⟨z10, rfl⟩ := Up.of E10
  go_wp2_with fail
  refine (heldIntS_marks D0.length _ _ _ ((OM10.out.up (by repeat (first | exact Ext.refl _ | refine Ext.up ?_ _ | refine Ext.alloc ?_ _ | refine Ext.drew ?_ | refine Ext.setRow ?_ (by first | (dsimp only; omega) | exact LeS.le | exact LeS.add _ | (simp; done) | (simp; omega)) _ | refine Ext.setCell ?_ (by first | (dsimp only; omega) | exact LeS.le | exact LeS.add _ | (simp; done) | (simp; omega)) _))).sl encI_length) (by omega) (by omega) (by omega)).mono ?_; rintro e w' ⟨rfl, rfl⟩
  go_wp2_with fail
  refine (toActionS_any l _ _ (H_l.out.up (by repeat (first | exact Ext.refl _ | refine Ext.up ?_ _ | refine Ext.alloc ?_ _ | refine Ext.drew ?_ | refine Ext.setRow ?_ (by first | (dsimp only; omega) | exact LeS.le | exact LeS.add _ | (simp; done) | (simp; omega)) _ | refine Ext.setCell ?_ (by first | (dsimp only; omega) | exact LeS.le | exact LeS.add _ | (simp; done) | (simp; omega)) _))) hm_l).mono ?_; rintro e w' ⟨y11, rfl, ⟨z11, rfl⟩, o11⟩
  have O11 := Lib.hid o11; clear o11
  go_wp2_with fail
  refine (iLevelsOf_any l _  _ ((O11.out.up (by repeat (first | exact Ext.refl _ | refine Ext.up ?_ _ | refine Ext.alloc ?_ _ | refine Ext.drew ?_ | refine Ext.setRow ?_ (by first | (dsimp only; omega) | exact LeS.le | exact LeS.add _ | (simp; done) | (simp; omega)) _ | refine Ext.setCell ?_ (by first | (dsimp only; omega) | exact LeS.le | exact LeS.add _ | (simp; done) | (simp; omega)) _))).sl Actn.enc_length)).mono ?_; rintro e w' ⟨y12, rfl, ⟨z12, rfl⟩, o12⟩
  (try rw [HD0.out] at o12)
  have O12 := Lib.hid o12; clear o12
  go_wp2_with fail
  refine (eqIntS_same D0 _ _ _ ((O12.out.up (by repeat (first | exact Ext.refl _ | refine Ext.up ?_ _ | refine Ext.alloc ?_ _ | refine Ext.drew ?_ | refine Ext.setRow ?_ (by first | (dsimp only; omega) | exact LeS.le | exact LeS.add _ | (simp; done) | (simp; omega)) _ | refine Ext.setCell ?_ (by first | (dsimp only; omega) | exact LeS.le | exact LeS.add _ | (simp; done) | (simp; omega)) _))).sl encI_length) ((O2_10.out.up (by repeat (first | exact Ext.refl _ | refine Ext.up ?_ _ | refine Ext.alloc ?_ _ | refine Ext.drew ?_ | refine Ext.setRow ?_ (by first | (dsimp only; omega) | exact LeS.le | exact LeS.add _ | (simp; done) | (simp; omega)) _ | refine Ext.setCell ?_ (by first | (dsimp only; omega) | exact LeS.le | exact LeS.add _ | (simp; done) | (simp; omega)) _))).sl encI_length)).mono ?_; rintro e w' ⟨rfl, ⟨z13, rfl⟩⟩
  go_wp2_with fail
  refine (heldIntS_marks D0.length _ _ _ ((OM10.out.up (by repeat (first | exact Ext.refl _ | refine Ext.up ?_ _ | refine Ext.alloc ?_ _ | refine Ext.drew ?_ | refine Ext.setRow ?_ (by first | (dsimp only; omega) | exact LeS.le | exact LeS.add _ | (simp; done) | (simp; omega)) _ | refine Ext.setCell ?_ (by first | (dsimp only; omega) | exact LeS.le | exact LeS.add _ | (simp; done) | (simp; omega)) _))).sl encI_length) (by omega) (by omega) (by omega)).mono ?_; rintro e w' ⟨rfl, rfl⟩
  go_wp2_with fail
  go_ret
  exact ⟨rfl, (.of (by repeat (first | exact Ext.refl _ | refine Ext.up ?_ _ | refine Ext.alloc ?_ _ | refine Ext.drew ?_ | refine Ext.setRow ?_ (by first | (dsimp only; omega) | exact LeS.le | exact LeS.add _ | (simp; done) | (simp; omega)) _ | refine Ext.setCell ?_ (by first | (dsimp only; omega) | exact LeS.le | exact LeS.add _ | (simp; done) | (simp; omega)) _)))⟩
end Go.Proofs.Ytfegehmdgicifaa
