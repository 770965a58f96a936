/- Walks: FnExactOrderFits: orders of actions. -/
import Derived.Test.YtknohbdhbjppjaaBlk
import Derived.Test.YtknohbdhbjppjaaConf
import Derived.Test.YtknohbdhbjppjaaHeld
import Derived.Test.YtknohbdhbjppjaaStoL
namespace Go.Proofs.Ytknohbdhbjppjaa
open Go Go.RowKit Go.Proofs

/-- x is among l's. -/
def hasI (l : List Int) (x : Int) : Bool := l.contains x
theorem hasI_iff {l : List Int} {x : Int} : hasI l x = true ↔ x ∈ l := by simp [hasI]
theorem hasI_not {l : List Int} {x : Int} : hasI l x = false ↔ x ∉ l := by rw [← hasI_iff]; simp
set_option maxHeartbeats 1000000 in
theorem indexI_any (l : List Int) (v : Value) (x : Int) (w : World) (h : SL (RF encI) 1 w v l) :
    Calls Try.prog 151 #[v, .int .i64 x] w fun e w' => ∃ n : Int, e = .returned (.int .i64 n) ∧ decide (0 ≤ n) = hasI l x ∧ w = w' := by
  obtain ⟨a, cap, rfl, hlen, hc⟩ := h.open
  clear h
  go_enter Try.func151, Try.ntmps151
  go_wp2_with fail
  go_loop [5, 8] (fun _ s8 => ∃ k : Nat, s8 = .int .i64 k ∧ k ≤ l.length ∧ hasI (l.take k) x = false) (fun _ s8 => l.length - (intOf s8).toNat)
  case atStart => exact ⟨0, rfl, Nat.zero_le _, rfl⟩
  case round =>
    obtain ⟨k, rfl, hk, hall⟩ := hrel
    by_cases hlt : k < l.length
    · obtain ⟨y, hyk⟩ := getElem?_some_of_lt hlt
      obtain ⟨b, off, rfl, hb, hcc⟩ := hc k y hyk
      have c0 : w.cell? ⟨b, off + k, none⟩ = some (.int .i64 y) := by have := hcc 0 _ rfl; simpa using this
      have Hy := Lib.hid hyk; have Hall := Lib.hid hall
      clear hcc hc hyk hall
      rcases eq_cases x y with ⟨h1, h1'⟩ | ⟨h1, h1'⟩
      · have H1 := Lib.hid h1; clear h1
        go_wp2_with fail
        go_ret
        refine ⟨_, rfl, ?_, rfl⟩
        have : x ∈ l := by rw [H1.out]; exact List.mem_of_getElem? Hy.out
        rw [hasI_iff.2 this]; simp
      · have H1 := Lib.hid h1'
        go_wp2_with fail
        go_round
        case rel => exact ⟨k + 1, by go_num, by omega, contains_next Hy.out Hall.out H1.out⟩
        case measure => simp [intOf]; omega
    · go_wp2_with fail
      go_ret
      obtain rfl : k = l.length := by omega
      rw [List.take_length] at hall
      exact ⟨_, rfl, by rw [hall]; rfl, rfl⟩
theorem containsI_any (l : List Int) (v : Value) (x : Int) (w : World) (h : SL (RF encI) 1 w v l) :
    Calls Try.prog 112 #[v, .int .i64 x] w fun e w' => e = .returned (.bool (hasI l x)) ∧ w = w' := by
  have H := Lib.hid h; clear h
  go_enter Try.func112, Try.ntmps112
  go_wp2_with (go_at_call 151; refine (indexI_any l _ _ _ H.out).mono ?_; rintro e w' ⟨n, rfl, hn, rfl⟩)
  go_ret
  exact ⟨rfl, rfl⟩
def cfAt (l : List Actn) (m n : Int) : Bool := match l[m.toNat]?, l[n.toNat]? with
  | some x, some y => conf x y
  | _, _ => false
def pairOk (l : List Actn) (o : List Int) (k j : Nat) : Bool := match o[j]?, o[k]? with
  | some m, some n => decide (m ≠ n) && !(decide (n < m) && cfAt l m n)
  | _, _ => true
def ordAt (l : List Actn) (o : List Int) (k : Nat) : Bool := match o[k]? with
  | some n => inR n 0 ((l.length : Int) - 1) && upTo (pairOk l o k) k
  | none => true
def ordOk (l : List Actn) (o : List Int) : Bool := actsOk l && (decide (o.length = l.length) && upTo (ordAt l o) o.length)
theorem pairOk_eq {l : List Actn} {o : List Int} {k j : Nat} {m n : Int} (hm : o[j]? = some m) (hn : o[k]? = some n) : pairOk l o k j = (decide (m ≠ n) && !(decide (n < m) && cfAt l m n)) := by simp [pairOk, hm, hn]
theorem cfAt_eq {l : List Actn} {m n : Int} {x y : Actn} (hx : l[m.toNat]? = some x) (hy : l[n.toNat]? = some y) : cfAt l m n = conf x y := by simp [cfAt, hx, hy]
theorem ordAt_eq {l : List Actn} {o : List Int} {k : Nat} {n : Int} (hn : o[k]? = some n) : ordAt l o k = (inR n 0 ((l.length : Int) - 1) && upTo (pairOk l o k) k) := by simp [ordAt, hn]
theorem ordAt_in {l : List Actn} {o : List Int} {k j : Nat} {m : Int} (h : upTo (ordAt l o) k = true) (hj : j < k) (hm : o[j]? = some m) : 0 ≤ m ∧ m < l.length := by
  have := upTo_iff.1 h j hj
  rw [ordAt_eq hm, Bool.and_eq_true, inR_iff] at this
  omega
theorem pair_same {l : List Actn} {o : List Int} {k : Nat} {n : Int} (hn : o[k]? = some n) (h : hasI (o.take k) n = true) : upTo (pairOk l o k) k = false := by
  have hm : n ∈ o.take k := hasI_iff.1 h
  obtain ⟨j, hj⟩ := List.getElem?_of_mem hm
  have hjk : j < k := by have := (List.getElem?_eq_some_iff.1 hj).1; simp at this; omega
  rw [List.getElem?_take_of_lt hjk] at hj
  exact upTo_false hjk (by rw [pairOk_eq hj hn]; simp)
theorem ne_of_contains {o : List Int} {k j : Nat} {m n : Int} (h : hasI (o.take k) n = false) (hj : j < k) (hm : o[j]? = some m) : m ≠ n := by
  rintro rfl
  have : m ∈ o.take k := List.mem_of_getElem? (i := j) (by rw [List.getElem?_take_of_lt hj]; exact hm)
  exact hasI_not.1 h this
theorem actsOk_at {l : List Actn} (h : actsOk l = true) {i : Nat} {x : Actn} (hx : l[i]? = some x) : x.ok = true := by
  simp only [actsOk, Bool.and_eq_true, List.all_eq_true] at h
  exact h.2 x (List.mem_of_getElem? hx)
theorem actsOk_len {l : List Actn} (h : actsOk l = true) : l.length ≤ 10 := by
  simp only [actsOk, Bool.and_eq_true, decide_eq_true_eq] at h
  omega
theorem acell {w : World} {l : List Actn} {a : Option Addr} (hc : ∀ (k : Nat) x, l[k]? = some x → ∃ b off, a = some ⟨b, off, none⟩ ∧ LtS b w ∧ ∀ j u, (Actn.enc x)[j]? = some u → w.cell? ⟨b, off + k * 4 + j, none⟩ = some u) {b off : Nat} (ha : a = some ⟨b, off, none⟩) {k : Nat} {x : Actn} (hx : l[k]? = some x) :
    w.cell? ⟨b, off + k * 4, none⟩ = some (.int .i64 x.kind) ∧ w.cell? ⟨b, off + k * 4 + 1, none⟩ = some (.int .i64 x.src) ∧ w.cell? ⟨b, off + k * 4 + 2, none⟩ = some (.int .i64 x.dst) ∧ w.cell? ⟨b, off + k * 4 + 3, none⟩ = some (.int .i64 x.amt) := by
  obtain ⟨b', off', e, _, hcc⟩ := hc k x hx
  rw [ha] at e
  simp only [Option.some.injEq, Addr.mk.injEq, and_true] at e
  obtain ⟨rfl, rfl⟩ := e
  exact ⟨hcc 0 _ rfl, hcc 1 _ rfl, hcc 2 _ rfl, hcc 3 _ rfl⟩
set_option maxHeartbeats 4000000 in
theorem iOrderFits_any (l : List Actn) (o : List Int) (vl vo : Value) (w : World) (hl : SL (RF Actn.enc) 4 w vl l) (ho : SL (RF encI) 1 w vo o) :
    Calls Try.prog 97 #[vl, vo] w fun e w' => e = .returned (.bool (ordOk l o)) ∧ Up w w' := by
  have Hl := Lib.hid hl; have Ho := Lib.hid ho
  obtain ⟨pl, cl, hvl, hll, hcl⟩ := hl.open
  obtain ⟨po, co, hvo, hlo, hco⟩ := ho.open
  obtain ⟨_, co', hvo', _, hoc⟩ := ho.openc
  rw [hvo] at hvo'; cases hvo'
  subst hvl; subst hvo
  clear hl ho
  rcases ha : actsOk l with _ | _
  · have Hf := Lib.hid (show ordOk l o = false by rw [ordOk, ha]; rfl)
    go_enter Try.func97, Try.ntmps97
    go_wp2_with (go_at_call 147; refine (iActionsValid_any l _ _ Hl.out).mono ?_; rintro e w' ⟨rfl, z1, rfl⟩)
    go_ret
    exact ⟨by rw [Hf.out]; rfl, (.of (by repeat (first | exact Ext.refl _ | refine Ext.up ?_ _ | refine Ext.alloc ?_ _ | refine Ext.drew ?_ | refine Ext.setRow ?_ (by first | (dsimp only; omega) | exact LeS.le | exact LeS.add _ | (simp; done) | (simp; omega)) _ | refine Ext.setCell ?_ (by first | (dsimp only; omega) | exact LeS.le | exact LeS.add _ | (simp; done) | (simp; omega)) _)))⟩
  by_cases hlen : o.length = l.length
  rotate_left
  · have Hf := Lib.hid (show ordOk l o = false by rw [ordOk, decide_eq_false hlen]; simp)
    have hne : ((o.length : Int) != (l.length : Int)) = true := by rw [bne_iff_ne]; omega
    go_enter Try.func97, Try.ntmps97
    go_wp2_with (go_at_call 147; refine (iActionsValid_any l _ _ Hl.out).mono ?_; rintro e w' ⟨rfl, z1, rfl⟩)
    go_ret
    exact ⟨by rw [Hf.out]; rfl, (.of (by repeat (first | exact Ext.refl _ | refine Ext.up ?_ _ | refine Ext.alloc ?_ _ | refine Ext.drew ?_ | refine Ext.setRow ?_ (by first | (dsimp only; omega) | exact LeS.le | exact LeS.add _ | (simp; done) | (simp; omega)) _ | refine Ext.setCell ?_ (by first | (dsimp only; omega) | exact LeS.le | exact LeS.add _ | (simp; done) | (simp; omega)) _)))⟩
  have Hfin := Lib.hid (show ordOk l o = upTo (ordAt l o) o.length by rw [ordOk, decide_eq_true hlen, ha]; rfl)
  have hne : ((o.length : Int) != (l.length : Int)) = false := by rw [bne_eq_false_iff_eq]; omega
  have hl10 := actsOk_len ha
  have Ha := Lib.hid ha
  have hle1 : o.length ≤ l.length := by omega
  have hle2 : l.length ≤ o.length := by omega
  clear hlen
  go_enter Try.func97, Try.ntmps97
  go_wp2_with (go_at_call 147; refine (iActionsValid_any l _ _ Hl.out).mono ?_; rintro e w' ⟨rfl, z1, rfl⟩)
  clear hne
  go_loopw [5, 6, 8, 21] (fun _ _ _ s21 wr => ∃ k : Nat, s21 = .int .i64 k ∧ k ≤ o.length ∧ upTo (ordAt l o) k = true ∧ Up w wr) (fun _ _ _ s21 _ => o.length - (intOf s21).toNat)
  case atStart => exact ⟨0, rfl, Nat.zero_le _, rfl, (.of (by repeat (first | exact Ext.refl _ | refine Ext.up ?_ _ | refine Ext.alloc ?_ _ | refine Ext.drew ?_ | refine Ext.setRow ?_ (by first | (dsimp only; omega) | exact LeS.le | exact LeS.add _ | (simp; done) | (simp; omega)) _ | refine Ext.setCell ?_ (by first | (dsimp only; omega) | exact LeS.le | exact LeS.add _ | (simp; done) | (simp; omega)) _)))⟩
  case round =>
    obtain ⟨k, rfl, hk, hall, ⟨z, rfl⟩⟩ := hrel
    by_cases hlt : k < o.length
    · obtain ⟨n, hnk⟩ := getElem?_some_of_lt hlt
      obtain ⟨b, off, hpo, hb, hcc⟩ := hco k n hnk
      subst hpo
      have c0 : w.cell? ⟨b, off + k, none⟩ = some (.int .i64 n) := by have := hcc 0 _ rfl; simpa using this
      have Hn := Lib.hid hnk; have Hall := Lib.hid hall
      have Hco := Lib.hid hco; have Hcl := Lib.hid hcl
      have hkc : k ≤ co := by omega
      have hkc' : (k : Int) ≤ (co : Int) := by omega
      have hk0 : (0 : Int) ≤ (k : Int) := by omega
      clear hcc hnk hall hco hcl
      rcases hr : inR n 0 ((l.length : Int) - 1) with _ | _
      · have Hf := Lib.hid (show ordAt l o k = false by rw [ordAt_eq Hn.out, hr]; rfl)
        go_wp2_with (go_at_call 89; refine (in_any _ _ _ _).mono ?_; rintro e w' ⟨rfl, rfl⟩)
        go_ret
        exact ⟨by rw [Hfin.out, upTo_false hlt Hf.out]; rfl, (.of (by repeat (first | exact Ext.refl _ | refine Ext.up ?_ _ | refine Ext.alloc ?_ _ | refine Ext.drew ?_ | refine Ext.setRow ?_ (by first | (dsimp only; omega) | exact LeS.le | exact LeS.add _ | (simp; done) | (simp; omega)) _ | refine Ext.setCell ?_ (by first | (dsimp only; omega) | exact LeS.le | exact LeS.add _ | (simp; done) | (simp; omega)) _)))⟩
      obtain ⟨n0, n1⟩ := inR_iff.1 hr
      have hkt : (o.take k).length = k := by rw [List.length_take]; omega
      rcases hct : hasI (o.take k) n with _ | _
      rotate_left
      · have Hf := Lib.hid (show ordAt l o k = false by rw [ordAt_eq Hn.out, pair_same Hn.out hct]; simp)
        go_wp2_with (first | (go_at_call 89; refine (in_any _ _ _ _).mono ?_; rintro e w' ⟨rfl, rfl⟩) | (go_at_call 112; refine (containsI_any (o.take k) _ n _ ((Ho.out.take (by omega)).up (by repeat (first | exact Ext.refl _ | refine Ext.up ?_ _ | refine Ext.alloc ?_ _ | refine Ext.drew ?_ | refine Ext.setRow ?_ (by first | (dsimp only; omega) | exact LeS.le | exact LeS.add _ | (simp; done) | (simp; omega)) _ | refine Ext.setCell ?_ (by first | (dsimp only; omega) | exact LeS.le | exact LeS.add _ | (simp; done) | (simp; omega)) _)))).mono ?_; rintro e w' ⟨rfl, rfl⟩))
        go_ret
        exact ⟨by rw [Hfin.out, upTo_false hlt Hf.out]; rfl, (.of (by repeat (first | exact Ext.refl _ | refine Ext.up ?_ _ | refine Ext.alloc ?_ _ | refine Ext.drew ?_ | refine Ext.setRow ?_ (by first | (dsimp only; omega) | exact LeS.le | exact LeS.add _ | (simp; done) | (simp; omega)) _ | refine Ext.setCell ?_ (by first | (dsimp only; omega) | exact LeS.le | exact LeS.add _ | (simp; done) | (simp; omega)) _)))⟩
      have Hct := Lib.hid hct
      go_wp2_with (first | (go_at_call 89; refine (in_any _ _ _ _).mono ?_; rintro e w' ⟨rfl, rfl⟩) | (go_at_call 112; refine (containsI_any (o.take k) _ n _ ((Ho.out.take (by omega)).up (by repeat (first | exact Ext.refl _ | refine Ext.up ?_ _ | refine Ext.alloc ?_ _ | refine Ext.drew ?_ | refine Ext.setRow ?_ (by first | (dsimp only; omega) | exact LeS.le | exact LeS.add _ | (simp; done) | (simp; omega)) _ | refine Ext.setCell ?_ (by first | (dsimp only; omega) | exact LeS.le | exact LeS.add _ | (simp; done) | (simp; omega)) _)))).mono ?_; rintro e w' ⟨rfl, rfl⟩))
      go_loopw [8, 43] (fun _ s43 wr => ∃ j : Nat, s43 = .int .i64 j ∧ j ≤ k ∧ upTo (pairOk l o k) j = true ∧ Up w wr) (fun _ s43 _ => k - (intOf s43).toNat)
      case atStart => exact ⟨0, rfl, Nat.zero_le _, rfl, (.of (by repeat (first | exact Ext.refl _ | refine Ext.up ?_ _ | refine Ext.alloc ?_ _ | refine Ext.drew ?_ | refine Ext.setRow ?_ (by first | (dsimp only; omega) | exact LeS.le | exact LeS.add _ | (simp; done) | (simp; omega)) _ | refine Ext.setCell ?_ (by first | (dsimp only; omega) | exact LeS.le | exact LeS.add _ | (simp; done) | (simp; omega)) _)))⟩
      case round =>
        obtain ⟨j, rfl, hj, hpairs, ⟨z2, rfl⟩⟩ := hrel
        by_cases hjt : j < k
        · obtain ⟨m, hmj⟩ := getElem?_some_of_lt (show j < o.length by omega)
          obtain ⟨m0, m1⟩ := ordAt_in Hall.out hjt hmj
          have hmn := ne_of_contains Hct.out hjt hmj
          have d0 : w.cell? ⟨b, off + j, none⟩ = some (.int .i64 m) := by
            obtain ⟨b', off', e, _, hdd⟩ := Hco.out j m hmj
            simp only [Option.some.injEq, Addr.mk.injEq, and_true] at e
            obtain ⟨rfl, rfl⟩ := e
            have := hdd 0 _ rfl; simpa using this
          obtain ⟨x, hx⟩ := getElem?_some_of_lt (show m.toNat < l.length by omega)
          obtain ⟨y, hy⟩ := getElem?_some_of_lt (show n.toNat < l.length by omega)
          have hok1 := actsOk_at Ha.out hx
          have hok2 := actsOk_at Ha.out hy
          obtain ⟨bl, offl, hpl, hbl, _⟩ := Hcl.out _ x hx
          obtain ⟨x0, x1, x2, x3⟩ := acell Hcl.out hpl hx
          obtain ⟨y0, y1, y2, y3⟩ := acell Hcl.out hpl hy
          subst hpl
          have m1' : m < (l.length : Int) := m1
          have n1' : n < (l.length : Int) := by omega
          have Hp := Lib.hid (pairOk_eq (l := l) hmj Hn.out); have Hcf := Lib.hid (cfAt_eq hx hy); have Hpairs := Lib.hid hpairs
          have Hmn := Lib.hid hmn; have Hk1 := Lib.hid hok1; have Hk2 := Lib.hid hok2
          clear hmj hx hy hpairs hmn hok1 hok2
          by_cases hg : n < m
          · have hg' : decide (n < m) = true := by simpa using hg
            rcases hcf : conf x y with _ | _
            · go_wp2_with fail
              (refine wp_region_up (by kernel_rfl) (by kernel_rfl) ?_; (repeat (go_big_quiet_step ((go_at_call 127; exact Calls.up ((hcf ▸ conflicts_any x y _ Hk1.out Hk2.out)))))); refine wpQuiet_nil ?_; intro _ hw'; obtain ⟨zq, hw''⟩ := hw'; subst hw'')
              go_wp2_with fail
              go_roundw
              case rel => exact ⟨j + 1, by go_num, by omega, upTo_succ Hpairs.out (by rw [Hp.out, Hcf.out, hcf]; simpa using Hmn.out), (.of (by repeat (first | exact Ext.refl _ | refine Ext.up ?_ _ | refine Ext.alloc ?_ _ | refine Ext.drew ?_ | refine Ext.setRow ?_ (by first | (dsimp only; omega) | exact LeS.le | exact LeS.add _ | (simp; done) | (simp; omega)) _ | refine Ext.setCell ?_ (by first | (dsimp only; omega) | exact LeS.le | exact LeS.add _ | (simp; done) | (simp; omega)) _)))⟩
              case measure => simp [intOf]; omega
            · go_wp2_with fail
              (refine wp_region_up (by kernel_rfl) (by kernel_rfl) ?_; (repeat (go_big_quiet_step ((go_at_call 127; exact Calls.up ((hcf ▸ conflicts_any x y _ Hk1.out Hk2.out)))))); refine wpQuiet_nil ?_; intro _ hw'; obtain ⟨zq, hw''⟩ := hw'; subst hw'')
              go_wp2_with fail
              go_ret
              refine ⟨?_, (.of (by repeat (first | exact Ext.refl _ | refine Ext.up ?_ _ | refine Ext.alloc ?_ _ | refine Ext.drew ?_ | refine Ext.setRow ?_ (by first | (dsimp only; omega) | exact LeS.le | exact LeS.add _ | (simp; done) | (simp; omega)) _ | refine Ext.setCell ?_ (by first | (dsimp only; omega) | exact LeS.le | exact LeS.add _ | (simp; done) | (simp; omega)) _)))⟩
              have h1 : upTo (pairOk l o k) k = false := upTo_false hjt (by rw [Hp.out, Hcf.out, hcf]; simp [hg])
              rw [Hfin.out, upTo_false hlt (by rw [ordAt_eq Hn.out, h1]; simp)]; rfl
          · have hg' : decide (n < m) = false := by simpa using hg
            go_wp2_with fail
            (refine wp_region_up (by kernel_rfl) (by kernel_rfl) ?_; (repeat (go_big_quiet_step (fail))); refine wpQuiet_nil ?_; intro _ hw'; obtain ⟨zq, hw''⟩ := hw'; subst hw'')
            go_wp2_with fail
            go_roundw
            case rel => exact ⟨j + 1, by go_num, by omega, upTo_succ Hpairs.out (by rw [Hp.out]; simpa [hg] using Hmn.out), (.of (by repeat (first | exact Ext.refl _ | refine Ext.up ?_ _ | refine Ext.alloc ?_ _ | refine Ext.drew ?_ | refine Ext.setRow ?_ (by first | (dsimp only; omega) | exact LeS.le | exact LeS.add _ | (simp; done) | (simp; omega)) _ | refine Ext.setCell ?_ (by first | (dsimp only; omega) | exact LeS.le | exact LeS.add _ | (simp; done) | (simp; omega)) _)))⟩
            case measure => simp [intOf]; omega
        · obtain rfl : j = k := by omega
          have Hpairs := Lib.hid hpairs; clear hpairs
          go_wp2_with fail
          go_roundw
          case rel => exact ⟨j + 1, by go_num, by omega, upTo_succ Hall.out (by rw [ordAt_eq Hn.out, hr, Hpairs.out]; rfl), (.of (by repeat (first | exact Ext.refl _ | refine Ext.up ?_ _ | refine Ext.alloc ?_ _ | refine Ext.drew ?_ | refine Ext.setRow ?_ (by first | (dsimp only; omega) | exact LeS.le | exact LeS.add _ | (simp; done) | (simp; omega)) _ | refine Ext.setCell ?_ (by first | (dsimp only; omega) | exact LeS.le | exact LeS.add _ | (simp; done) | (simp; omega)) _)))⟩
          case measure => simp [intOf]; omega
    · go_wp2_with fail
      go_ret
      obtain rfl : k = o.length := by omega
      exact ⟨by rw [Hfin.out, hall]; rfl, z, rfl⟩
end Go.Proofs.Ytknohbdhbjppjaa
