/- Walks: FnExactOrderFits on the reference's side, and the law. -/
import Derived.Test.YtjmjmdncpeeemaaOrd
namespace Go.Proofs.Ytjmjmdncpeeemaa
open Go Go.RowKit Go.Proofs

theorem conflict_ok {x y : Actn} (hx : x.ok = true) (hy : y.ok = true) : conflict x y = conf x y := by simp [conflict, hx, hy]
theorem icell {w : World} {o : List Int} {a : Option Addr} (hc : ∀ (k : Nat) x, o[k]? = some x → ∃ b off, a = some ⟨b, off, none⟩ ∧ LtS b w ∧ ∀ j u, (encI x)[j]? = some u → w.cell? ⟨b, off + k * 1 + j, none⟩ = some u) {b off : Nat} (ha : a = some ⟨b, off, none⟩) {k : Nat} {x : Int} (hx : o[k]? = some x) :
    w.cell? ⟨b, off + k, none⟩ = some (.int .i64 x) := by
  obtain ⟨b', off', e, _, hcc⟩ := hc k x hx
  rw [ha] at e
  simp only [Option.some.injEq, Addr.mk.injEq, and_true] at e
  obtain ⟨rfl, rfl⟩ := e
  have := hcc 0 _ rfl; simpa using this
set_option maxHeartbeats 8000000 in
theorem sOrderFits_any (l : List Actn) (o : List Int) (vl vo : Value) (w : World) (hl : SL (RF Actn.enc) 4 w vl l) (ho : SL (RF encI) 1 w vo o) :
    Calls Try.prog 51 #[vl, vo] w fun e w' => e = .returned (.bool (ordOk l o)) ∧ Up w w' := by
  have Hl := Lib.hid hl; have Ho := Lib.hid ho
  obtain ⟨pl, cl, hvl, hll, hcl⟩ := hl.open
  obtain ⟨po, co, hvo, hlo, hco⟩ := ho.open
  subst hvl; subst hvo
  clear hl ho
  rcases ha : actsOk l with _ | _
  · have Hf := Lib.hid (show ordOk l o = false by rw [ordOk, ha]; rfl)
    go_enter Try.func51, Try.ntmps51
    go_wp2_with (go_at_call 80; refine (sActionsValid_any l _ _ Hl.out).mono ?_; rintro e w' ⟨rfl, z1, rfl⟩)
    go_ret
    exact ⟨by rw [Hf.out]; rfl, (.of (by repeat (first | exact Ext.refl _ | refine Ext.up ?_ _ | refine Ext.alloc ?_ _ | refine Ext.drew ?_ | refine Ext.setRow ?_ (by first | (dsimp only; omega) | exact LeS.le | exact LeS.add _ | (simp; done) | (simp; omega)) _ | refine Ext.setCell ?_ (by first | (dsimp only; omega) | exact LeS.le | exact LeS.add _ | (simp; done) | (simp; omega)) _)))⟩
  by_cases hlen : o.length = l.length
  rotate_left
  · have Hf := Lib.hid (show ordOk l o = false by rw [ordOk, decide_eq_false hlen]; simp)
    have hne : ((o.length : Int) != (l.length : Int)) = true := by rw [bne_iff_ne]; omega
    go_enter Try.func51, Try.ntmps51
    go_wp2_with (go_at_call 80; refine (sActionsValid_any l _ _ Hl.out).mono ?_; rintro e w' ⟨rfl, z1, rfl⟩)
    go_ret
    exact ⟨by rw [Hf.out]; rfl, (.of (by repeat (first | exact Ext.refl _ | refine Ext.up ?_ _ | refine Ext.alloc ?_ _ | refine Ext.drew ?_ | refine Ext.setRow ?_ (by first | (dsimp only; omega) | exact LeS.le | exact LeS.add _ | (simp; done) | (simp; omega)) _ | refine Ext.setCell ?_ (by first | (dsimp only; omega) | exact LeS.le | exact LeS.add _ | (simp; done) | (simp; omega)) _)))⟩
  have Hfin := Lib.hid (show ordOk l o = upTo (ordAt l o) o.length by rw [ordOk, decide_eq_true hlen, ha]; rfl)
  have hne : ((o.length : Int) != (l.length : Int)) = false := by rw [bne_eq_false_iff_eq]; omega
  have hl10 := actsOk_len ha
  have Ha := Lib.hid ha
  have hle1 : o.length ≤ l.length := by omega
  have hle2 : l.length ≤ o.length := by omega
  clear hlen
  go_enter Try.func51, Try.ntmps51
  go_wp2_with (go_at_call 80; refine (sActionsValid_any l _ _ Hl.out).mono ?_; rintro e w' ⟨rfl, z1, rfl⟩)
  clear hne
  go_loopw [5, 6] (fun s5 _ wr => ∃ k : Nat, s5 = .int .i64 k ∧ k ≤ o.length ∧ upTo (ordAt l o) k = true ∧ Up w wr) (fun s5 _ _ => o.length - (intOf s5).toNat)
  case atStart => exact ⟨0, rfl, Nat.zero_le _, rfl, (.of (by repeat (first | exact Ext.refl _ | refine Ext.up ?_ _ | refine Ext.alloc ?_ _ | refine Ext.drew ?_ | refine Ext.setRow ?_ (by first | (dsimp only; omega) | exact LeS.le | exact LeS.add _ | (simp; done) | (simp; omega)) _ | refine Ext.setCell ?_ (by first | (dsimp only; omega) | exact LeS.le | exact LeS.add _ | (simp; done) | (simp; omega)) _)))⟩
  case round =>
    obtain ⟨k, rfl, hk, hall, ⟨z, rfl⟩⟩ := hrel
    by_cases hlt : k < o.length
    · obtain ⟨n, hnk⟩ := getElem?_some_of_lt hlt
      obtain ⟨b, off, hpo, hb, _⟩ := hco k n hnk
      have c0 := icell hco hpo hnk
      subst hpo
      have Hn := Lib.hid hnk; have Hall := Lib.hid hall
      have Hco := Lib.hid hco; have Hcl := Lib.hid hcl
      have hk0 : (0 : Int) ≤ (k : Int) := by omega
      have hk1 : (k : Int) < o.length := by omega
      clear hnk hall hco hcl
      rcases hr : inR n 0 ((l.length : Int) - 1) with _ | _
      · have Hf := Lib.hid (show ordAt l o k = false by rw [ordAt_eq Hn.out, hr]; rfl)
        go_wp2_with (go_at_call 61; refine (l1In_any _ _ _ _).mono ?_; rintro e w' ⟨rfl, rfl⟩)
        go_ret
        exact ⟨by rw [Hfin.out, upTo_false hlt Hf.out]; rfl, (.of (by repeat (first | exact Ext.refl _ | refine Ext.up ?_ _ | refine Ext.alloc ?_ _ | refine Ext.drew ?_ | refine Ext.setRow ?_ (by first | (dsimp only; omega) | exact LeS.le | exact LeS.add _ | (simp; done) | (simp; omega)) _ | refine Ext.setCell ?_ (by first | (dsimp only; omega) | exact LeS.le | exact LeS.add _ | (simp; done) | (simp; omega)) _)))⟩
      obtain ⟨n0, n1⟩ := inR_iff.1 hr
      go_wp2_with (go_at_call 61; refine (l1In_any _ _ _ _).mono ?_; rintro e w' ⟨rfl, rfl⟩)
      go_loopw [6] (fun s6 wr => ∃ j : Nat, s6 = .int .i64 j ∧ j ≤ k ∧ upTo (pairOk l o k) j = true ∧ Up w wr) (fun s6 _ => k - (intOf s6).toNat)
      case atStart => exact ⟨0, rfl, Nat.zero_le _, rfl, (.of (by repeat (first | exact Ext.refl _ | refine Ext.up ?_ _ | refine Ext.alloc ?_ _ | refine Ext.drew ?_ | refine Ext.setRow ?_ (by first | (dsimp only; omega) | exact LeS.le | exact LeS.add _ | (simp; done) | (simp; omega)) _ | refine Ext.setCell ?_ (by first | (dsimp only; omega) | exact LeS.le | exact LeS.add _ | (simp; done) | (simp; omega)) _)))⟩
      case round =>
        obtain ⟨j, rfl, hj, hpairs, ⟨z2, rfl⟩⟩ := hrel
        by_cases hjt : j < k
        · obtain ⟨m, hmj⟩ := getElem?_some_of_lt (show j < o.length by omega)
          obtain ⟨m0, m1⟩ := ordAt_in Hall.out hjt hmj
          have d0 := icell Hco.out rfl hmj
          obtain ⟨x, hx⟩ := getElem?_some_of_lt (show m.toNat < l.length by omega)
          obtain ⟨y, hy⟩ := getElem?_some_of_lt (show n.toNat < l.length by omega)
          have hok1 := actsOk_at Ha.out hx
          have hok2 := actsOk_at Ha.out hy
          obtain ⟨bl, offl, hpl, hbl, _⟩ := Hcl.out _ x hx
          obtain ⟨x0, x1, x2, x3⟩ := acell Hcl.out hpl hx
          obtain ⟨y0, y1, y2, y3⟩ := acell Hcl.out hpl hy
          subst hpl
          have n1' : n < (l.length : Int) := by omega
          have hj0 : (0 : Int) ≤ (j : Int) := by omega
          have hj1 : (j : Int) < o.length := by omega
          have Hp := Lib.hid (pairOk_eq (l := l) hmj Hn.out); have Hcf := Lib.hid (cfAt_eq hx hy); have Hpairs := Lib.hid hpairs
          have Hk := Lib.hid (conflict_ok hok1 hok2)
          clear hmj hx hy hpairs hok1 hok2
          rcases eq_cases m n with ⟨he, he'⟩ | ⟨he, he'⟩
          · have Hf := Lib.hid (show pairOk l o k j = false by rw [Hp.out]; simp [he]); clear he
            go_wp2_with fail
            (refine wp_region_up (by kernel_rfl) (by kernel_rfl) ?_; (repeat (go_big_quiet_step (fail))); refine wpQuiet_nil ?_; intro _ hw'; obtain ⟨zq, hw''⟩ := hw'; subst hw'')
            go_wp2_with fail
            go_ret
            refine ⟨?_, (.of (by repeat (first | exact Ext.refl _ | refine Ext.up ?_ _ | refine Ext.alloc ?_ _ | refine Ext.drew ?_ | refine Ext.setRow ?_ (by first | (dsimp only; omega) | exact LeS.le | exact LeS.add _ | (simp; done) | (simp; omega)) _ | refine Ext.setCell ?_ (by first | (dsimp only; omega) | exact LeS.le | exact LeS.add _ | (simp; done) | (simp; omega)) _)))⟩
            have h1 : upTo (pairOk l o k) k = false := upTo_false hjt Hf.out
            rw [Hfin.out, upTo_false hlt (by rw [ordAt_eq Hn.out, h1]; simp)]; rfl
          by_cases hg : n < m
          · have hg' : decide (n < m) = true := by simpa using hg
            rcases hcf : conf x y with _ | _
            · have Hf := Lib.hid (show pairOk l o k j = true by rw [Hp.out, Hcf.out, hcf]; simpa using he); clear he
              go_wp2_with fail
              (refine wp_region_up (by kernel_rfl) (by kernel_rfl) ?_; (repeat (go_big_quiet_step ((go_at_call 28; exact Calls.up (((Hk.out.trans hcf) ▸ sConflict_any x y _)))))); refine wpQuiet_nil ?_; intro _ hw'; obtain ⟨zq, hw''⟩ := hw'; subst hw'')
              go_wp2_with fail
              go_roundw
              case rel => exact ⟨j + 1, by go_num, by omega, upTo_succ Hpairs.out Hf.out, (.of (by repeat (first | exact Ext.refl _ | refine Ext.up ?_ _ | refine Ext.alloc ?_ _ | refine Ext.drew ?_ | refine Ext.setRow ?_ (by first | (dsimp only; omega) | exact LeS.le | exact LeS.add _ | (simp; done) | (simp; omega)) _ | refine Ext.setCell ?_ (by first | (dsimp only; omega) | exact LeS.le | exact LeS.add _ | (simp; done) | (simp; omega)) _)))⟩
              case measure => simp [intOf]; omega
            · have Hf := Lib.hid (show pairOk l o k j = false by rw [Hp.out, Hcf.out, hcf]; simp [hg]); clear he
              go_wp2_with fail
              (refine wp_region_up (by kernel_rfl) (by kernel_rfl) ?_; (repeat (go_big_quiet_step ((go_at_call 28; exact Calls.up (((Hk.out.trans hcf) ▸ sConflict_any x y _)))))); refine wpQuiet_nil ?_; intro _ hw'; obtain ⟨zq, hw''⟩ := hw'; subst hw'')
              go_wp2_with fail
              go_ret
              refine ⟨?_, (.of (by repeat (first | exact Ext.refl _ | refine Ext.up ?_ _ | refine Ext.alloc ?_ _ | refine Ext.drew ?_ | refine Ext.setRow ?_ (by first | (dsimp only; omega) | exact LeS.le | exact LeS.add _ | (simp; done) | (simp; omega)) _ | refine Ext.setCell ?_ (by first | (dsimp only; omega) | exact LeS.le | exact LeS.add _ | (simp; done) | (simp; omega)) _)))⟩
              have h1 : upTo (pairOk l o k) k = false := upTo_false hjt Hf.out
              rw [Hfin.out, upTo_false hlt (by rw [ordAt_eq Hn.out, h1]; simp)]; rfl
          · have hg' : decide (n < m) = false := by simpa using hg
            have Hf := Lib.hid (show pairOk l o k j = true by rw [Hp.out]; simpa [hg] using he); clear he
            go_wp2_with fail
            (refine wp_region_up (by kernel_rfl) (by kernel_rfl) ?_; (repeat (go_big_quiet_step (fail))); refine wpQuiet_nil ?_; intro _ hw'; obtain ⟨zq, hw''⟩ := hw'; subst hw'')
            go_wp2_with fail
            go_roundw
            case rel => exact ⟨j + 1, by go_num, by omega, upTo_succ Hpairs.out Hf.out, (.of (by repeat (first | exact Ext.refl _ | refine Ext.up ?_ _ | refine Ext.alloc ?_ _ | refine Ext.drew ?_ | refine Ext.setRow ?_ (by first | (dsimp only; omega) | exact LeS.le | exact LeS.add _ | (simp; done) | (simp; omega)) _ | refine Ext.setCell ?_ (by first | (dsimp only; omega) | exact LeS.le | exact LeS.add _ | (simp; done) | (simp; omega)) _)))⟩
            case measure => simp [intOf]; omega
        · obtain rfl : j = k := by omega
          have Hpairs := Lib.hid hpairs; clear hpairs
          go_wp2_with fail
          go_roundw
          case rel => exact ⟨j + 1, by go_num, by omega, upTo_succ Hall.out (by rw [ordAt_eq Hn.out, hr, Hpairs.out]; rfl), (.of (by repeat (first | exact Ext.refl _ | refine Ext.up ?_ _ | refine Ext.alloc ?_ _ | refine Ext.drew ?_ | refine Ext.setRow ?_ (by first | (dsimp only; omega) | exact LeS.le | exact LeS.add _ | (simp; done) | (simp; omega)) _ | refine Ext.setCell ?_ (by first | (dsimp only; omega) | exact LeS.le | exact LeS.add _ | (simp; done) | (simp; omega)) _)))⟩
          case measure => simp [intOf]; omega
    · go_wp2_with fail
      go_ret
      obtain rfl : k = o.length := by omega
      exact ⟨by rw [Hfin.out, hall]; rfl, z, rfl⟩
set_option maxHeartbeats 4000000 in
theorem FnExactOrderFits_any (l : List Actn) (v_l : Value) (o : List Int) (v_o : Value) (w : World) (h_l : SL (RF Actn.enc) 4 w v_l l) (h_o : SL (RF encI) 1 w v_o o) :
    Calls Try.prog 13 #[v_l, v_o] w fun e w' => e = .returned (.bool true) ∧ Up w w' := by
  have H_l := Lib.hid h_l; clear h_l
  have H_o := Lib.hid h_o; clear h_o
  obtain ⟨p_o, cap_o, hv_o, hl_o, _⟩ := H_o.out.open; subst hv_o
  by_cases hb_o : 1048576 < o.length
  · go_enter Try.func13, Try.ntmps13
    go_wp2_with fail
    go_ret
    exact ⟨rfl, (.of (by repeat (first | exact Ext.refl _ | refine Ext.up ?_ _ | refine Ext.alloc ?_ _ | refine Ext.drew ?_ | refine Ext.setRow ?_ (by first | (dsimp only; omega) | exact LeS.le | exact LeS.add _ | (simp; done) | (simp; omega)) _ | refine Ext.setCell ?_ (by first | (dsimp only; omega) | exact LeS.le | exact LeS.add _ | (simp; done) | (simp; omega)) _)))⟩
  have hn_o : o.length ≤ 1048576 := by omega
  clear hb_o
  by_cases hz1 : szOf 1048576 l.length < 0
  · go_enter Try.func13, Try.ntmps13
    go_wp2_with fail
    refine (szActionS_any l _ 1048576 _ H_l.out (by omega) (by omega)).mono ?_; rintro e w' ⟨rfl, rfl⟩
    go_wp2_with fail
    go_ret
    exact ⟨rfl, (.of (by repeat (first | exact Ext.refl _ | refine Ext.up ?_ _ | refine Ext.alloc ?_ _ | refine Ext.drew ?_ | refine Ext.setRow ?_ (by first | (dsimp only; omega) | exact LeS.le | exact LeS.add _ | (simp; done) | (simp; omega)) _ | refine Ext.setCell ?_ (by first | (dsimp only; omega) | exact LeS.le | exact LeS.add _ | (simp; done) | (simp; omega)) _)))⟩
  have hn_l := szOf_le hz1
  have hq1 := szOf_eq hz1
  generalize hg1 : szOf 1048576 l.length = c1 at hz1 hq1
  have Hg1 := Lib.hid hg1; clear hg1
  have hc1 : 0 ≤ c1 ∧ c1 ≤ 1048576 := by omega
  obtain ⟨hc1a, hc1b⟩ := hc1
  have hm_l : l.length ≤ 1048576 := by omega
  clear hn_l hq1
  have hm_o := hn_o; clear hn_o
  go_enter Try.func13, Try.ntmps13
  go_wp2_with fail
  refine (szActionS_any l _ 1048576 _ H_l.out (by omega) (by omega)).mono ?_; rintro e w' ⟨rfl, rfl⟩
  rw [Hg1.out]
  go_wp2_with fail
  refine (toActionS_any l _ _ (H_l.out.up (by repeat (first | exact Ext.refl _ | refine Ext.up ?_ _ | refine Ext.alloc ?_ _ | refine Ext.drew ?_ | refine Ext.setRow ?_ (by first | (dsimp only; omega) | exact LeS.le | exact LeS.add _ | (simp; done) | (simp; omega)) _ | refine Ext.setCell ?_ (by first | (dsimp only; omega) | exact LeS.le | exact LeS.add _ | (simp; done) | (simp; omega)) _))) hm_l).mono ?_; rintro e w' ⟨y1, rfl, ⟨z1, rfl⟩, o1⟩
  have O1 := Lib.hid o1; clear o1
  go_wp2_with fail
  refine (toIntS_any o _ _ (H_o.out.up (by repeat (first | exact Ext.refl _ | refine Ext.up ?_ _ | refine Ext.alloc ?_ _ | refine Ext.drew ?_ | refine Ext.setRow ?_ (by first | (dsimp only; omega) | exact LeS.le | exact LeS.add _ | (simp; done) | (simp; omega)) _ | refine Ext.setCell ?_ (by first | (dsimp only; omega) | exact LeS.le | exact LeS.add _ | (simp; done) | (simp; omega)) _))) hm_o).mono ?_; rintro e w' ⟨y2, rfl, ⟨z2, rfl⟩, o2⟩
  have O2 := Lib.hid o2; clear o2
  go_wp2_with fail
  refine (sOrderFits_any l o _ _  _ ((O1.out.up (by repeat (first | exact Ext.refl _ | refine Ext.up ?_ _ | refine Ext.alloc ?_ _ | refine Ext.drew ?_ | refine Ext.setRow ?_ (by first | (dsimp only; omega) | exact LeS.le | exact LeS.add _ | (simp; done) | (simp; omega)) _ | refine Ext.setCell ?_ (by first | (dsimp only; omega) | exact LeS.le | exact LeS.add _ | (simp; done) | (simp; omega)) _))).sl Actn.enc_length) ((O2.out.up (by repeat (first | exact Ext.refl _ | refine Ext.up ?_ _ | refine Ext.alloc ?_ _ | refine Ext.drew ?_ | refine Ext.setRow ?_ (by first | (dsimp only; omega) | exact LeS.le | exact LeS.add _ | (simp; done) | (simp; omega)) _ | refine Ext.setCell ?_ (by first | (dsimp only; omega) | exact LeS.le | exact LeS.add _ | (simp; done) | (simp; omega)) _))).sl encI_length)).mono ?_; rintro e w' ⟨rfl, ⟨z3, rfl⟩⟩
  go_wp2_with fail
  refine (toActionS_any l _ _ (H_l.out.up (by repeat (first | exact Ext.refl _ | refine Ext.up ?_ _ | refine Ext.alloc ?_ _ | refine Ext.drew ?_ | refine Ext.setRow ?_ (by first | (dsimp only; omega) | exact LeS.le | exact LeS.add _ | (simp; done) | (simp; omega)) _ | refine Ext.setCell ?_ (by first | (dsimp only; omega) | exact LeS.le | exact LeS.add _ | (simp; done) | (simp; omega)) _))) hm_l).mono ?_; rintro e w' ⟨y4, rfl, ⟨z4, rfl⟩, o4⟩
  have O4 := Lib.hid o4; clear o4
  go_wp2_with fail
  refine (toIntS_any o _ _ (H_o.out.up (by repeat (first | exact Ext.refl _ | refine Ext.up ?_ _ | refine Ext.alloc ?_ _ | refine Ext.drew ?_ | refine Ext.setRow ?_ (by first | (dsimp only; omega) | exact LeS.le | exact LeS.add _ | (simp; done) | (simp; omega)) _ | refine Ext.setCell ?_ (by first | (dsimp only; omega) | exact LeS.le | exact LeS.add _ | (simp; done) | (simp; omega)) _))) hm_o).mono ?_; rintro e w' ⟨y5, rfl, ⟨z5, rfl⟩, o5⟩
  have O5 := Lib.hid o5; clear o5
  go_wp2_with fail
  refine (iOrderFits_any l o _ _  _ ((O4.out.up (by repeat (first | exact Ext.refl _ | refine Ext.up ?_ _ | refine Ext.alloc ?_ _ | refine Ext.drew ?_ | refine Ext.setRow ?_ (by first | (dsimp only; omega) | exact LeS.le | exact LeS.add _ | (simp; done) | (simp; omega)) _ | refine Ext.setCell ?_ (by first | (dsimp only; omega) | exact LeS.le | exact LeS.add _ | (simp; done) | (simp; omega)) _))).sl Actn.enc_length) ((O5.out.up (by repeat (first | exact Ext.refl _ | refine Ext.up ?_ _ | refine Ext.alloc ?_ _ | refine Ext.drew ?_ | refine Ext.setRow ?_ (by first | (dsimp only; omega) | exact LeS.le | exact LeS.add _ | (simp; done) | (simp; omega)) _ | refine Ext.setCell ?_ (by first | (dsimp only; omega) | exact LeS.le | exact LeS.add _ | (simp; done) | (simp; omega)) _))).sl encI_length)).mono ?_; rintro e w' ⟨rfl, ⟨z6, rfl⟩⟩
  go_wp2_with fail
  refine (toActionS_any l _ _ (H_l.out.up (by repeat (first | exact Ext.refl _ | refine Ext.up ?_ _ | refine Ext.alloc ?_ _ | refine Ext.drew ?_ | refine Ext.setRow ?_ (by first | (dsimp only; omega) | exact LeS.le | exact LeS.add _ | (simp; done) | (simp; omega)) _ | refine Ext.setCell ?_ (by first | (dsimp only; omega) | exact LeS.le | exact LeS.add _ | (simp; done) | (simp; omega)) _))) hm_l).mono ?_; rintro e w' ⟨y7, rfl, ⟨z7, rfl⟩, o7⟩
  have O7 := Lib.hid o7; clear o7
  go_wp2_with fail
  refine (eqActionS_same l _ _ _ ((O4.out.up (by repeat (first | exact Ext.refl _ | refine Ext.up ?_ _ | refine Ext.alloc ?_ _ | refine Ext.drew ?_ | refine Ext.setRow ?_ (by first | (dsimp only; omega) | exact LeS.le | exact LeS.add _ | (simp; done) | (simp; omega)) _ | refine Ext.setCell ?_ (by first | (dsimp only; omega) | exact LeS.le | exact LeS.add _ | (simp; done) | (simp; omega)) _))).sl Actn.enc_length) ((O7.out.up (by repeat (first | exact Ext.refl _ | refine Ext.up ?_ _ | refine Ext.alloc ?_ _ | refine Ext.drew ?_ | refine Ext.setRow ?_ (by first | (dsimp only; omega) | exact LeS.le | exact LeS.add _ | (simp; done) | (simp; omega)) _ | refine Ext.setCell ?_ (by first | (dsimp only; omega) | exact LeS.le | exact LeS.add _ | (simp; done) | (simp; omega)) _))).sl Actn.enc_length)).mono ?_; rintro e w' ⟨rfl, ⟨z8, rfl⟩⟩
  go_wp2_with fail
  refine (toIntS_any o _ _ (H_o.out.up (by repeat (first | exact Ext.refl _ | refine Ext.up ?_ _ | refine Ext.alloc ?_ _ | refine Ext.drew ?_ | refine Ext.setRow ?_ (by first | (dsimp only; omega) | exact LeS.le | exact LeS.add _ | (simp; done) | (simp; omega)) _ | refine Ext.setCell ?_ (by first | (dsimp only; omega) | exact LeS.le | exact LeS.add _ | (simp; done) | (simp; omega)) _))) hm_o).mono ?_; rintro e w' ⟨y9, rfl, ⟨z9, rfl⟩, o9⟩
  have O9 := Lib.hid o9; clear o9
  go_wp2_with fail
  refine (eqIntS_same o _ _ _ ((O5.out.up (by repeat (first | exact Ext.refl _ | refine Ext.up ?_ _ | refine Ext.alloc ?_ _ | refine Ext.drew ?_ | refine Ext.setRow ?_ (by first | (dsimp only; omega) | exact LeS.le | exact LeS.add _ | (simp; done) | (simp; omega)) _ | refine Ext.setCell ?_ (by first | (dsimp only; omega) | exact LeS.le | exact LeS.add _ | (simp; done) | (simp; omega)) _))).sl encI_length) ((O9.out.up (by repeat (first | exact Ext.refl _ | refine Ext.up ?_ _ | refine Ext.alloc ?_ _ | refine Ext.drew ?_ | refine Ext.setRow ?_ (by first | (dsimp only; omega) | exact LeS.le | exact LeS.add _ | (simp; done) | (simp; omega)) _ | refine Ext.setCell ?_ (by first | (dsimp only; omega) | exact LeS.le | exact LeS.add _ | (simp; done) | (simp; omega)) _))).sl encI_length)).mono ?_; rintro e w' ⟨rfl, ⟨z10, rfl⟩⟩
  go_wp2_with fail
  go_ret
  exact ⟨rfl, (.of (by repeat (first | exact Ext.refl _ | refine Ext.up ?_ _ | refine Ext.alloc ?_ _ | refine Ext.drew ?_ | refine Ext.setRow ?_ (by first | (dsimp only; omega) | exact LeS.le | exact LeS.add _ | (simp; done) | (simp; omega)) _ | refine Ext.setCell ?_ (by first | (dsimp only; omega) | exact LeS.le | exact LeS.add _ | (simp; done) | (simp; omega)) _)))⟩
end Go.Proofs.Ytjmjmdncpeeemaa
