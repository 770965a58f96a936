/- Walks: layers, the reference's side. -/
import Derived.Test.YteiemjebdhmnaaaGreatGLxTop26
import Derived.Test.YteiemjebdhmnaaaGreatGLxTop06
set_option linter.unusedSimpArgs false
set_option linter.unusedVariables false
namespace Go.Proofs.YteiemjebdhmnaaaGreat
open Go Go.RowKit Go.Proofs

set_option maxHeartbeats 2000000 in
theorem sWrites_any (l : List Ent) (v : Value) (w : World) (h : SL (RF Ent.enc) 2 w v l) :
    Calls Tryz.prog 108 #[v] w fun e w' => e = .returned (.bool (entsOk 0 l)) ∧ Up w w' := by
  obtain ⟨a, cap, rfl, hlen, hc⟩ := h.open
  clear h
  go_enter Tryz.func108, Tryz.ntmps108
  go_wp2_with fail
  go_loopw [3] (fun s3 wr => ∃ k : Nat, s3 = .int .i64 k ∧ k ≤ l.length ∧ upTo (entAt 0 l) k = true ∧ Up w wr) (fun s3 _ => l.length - (intOf s3).toNat)
  case atStart => exact ⟨0, rfl, Nat.zero_le _, rfl, .of (Ext.refl _)⟩
  case round =>
    obtain ⟨k, rfl, hk, hall, z, rfl⟩ := hrel
    by_cases hlt : k < l.length
    · obtain ⟨x, hxk⟩ := getElem?_some_of_lt hlt
      obtain ⟨b, off, rfl, hb, hcc⟩ := hc k x hxk
      have c0 : w.cell? ⟨b, off + k * 2, none⟩ = some (.int .i64 x.k) := hcc 0 _ rfl
      have c1 : w.cell? ⟨b, off + k * 2 + 1, none⟩ = some (.int .i64 x.v) := hcc 1 _ rfl
      have kk : (0 : Int) ≤ (k : Int) := by omega
      have kl : (k : Int) < l.length := by omega
      clear hcc
      by_cases h0 : 0 < k
      · obtain ⟨y, hyk⟩ := getElem?_some_of_lt (show k - 1 < l.length by omega)
        obtain ⟨b', off', hbo, _, hdd⟩ := hc (k - 1) y hyk
        simp only [Option.some.injEq, Addr.mk.injEq, and_true] at hbo
        obtain ⟨rfl, rfl⟩ := hbo
        have d0 : w.cell? ⟨b, off + (k - 1) * 2, none⟩ = some (.int .i64 y.k) := hdd 0 _ rfl
        have Hall := Lib.hid hall; have Hat := Lib.hid (entAt_next (least := 0) hxk h0 hyk)
        have k0 : decide ((0 : Int) < (k : Int)) = true := by simpa using h0
        have ks : IntKind.i64.wrap ((k : Int) - 1) = ((k - 1 : Nat) : Int) := by rw [IntWalk.i64_in _ (by omega)]; omega
        have ks0 : (0 : Int) ≤ (k : Int) - 1 := by omega
        have ks1 : (k : Int) - 1 < l.length := by omega
        have ks2 : ((k : Int) - 1).toNat = k - 1 := by omega
        clear hc hdd hxk hall hyk
        rcases guards2 (inR x.k 0 31) (inR x.v 0 1000000) with h1 | ⟨h1, h2⟩ | ⟨h1, h2⟩
        case inr.inr =>
          by_cases g : y.k < x.k
          · have g' : decide (x.k ≤ y.k) = false := by simpa using g
            go_wp2_with fail
            (refine wp_region_up (by kernel_rfl) (by kernel_rfl) ?_; (repeat (go_big_quiet_step ((go_at_call 31; exact Calls.up_same (l1In_any _ _ _ _))))); refine wpQuiet_nil ?_; intro _ hw'; obtain ⟨zq, hw''⟩ := hw'; subst hw'')
            go_wp2_with fail
            go_roundw
            case rel => exact ⟨k + 1, by go_num, by omega, upTo_succ Hall.out (by rw [Hat.out, h1, h2]; simpa using g), (.of (by repeat (first | exact Ext.refl _ | refine Ext.up ?_ _ | refine Ext.alloc ?_ _ | refine Ext.drew ?_ | refine Ext.setRow ?_ (by first | (dsimp only; omega) | exact LeS.le | exact LeS.add _ | (simp; done) | (simp; omega)) _ | refine Ext.setCell ?_ (by first | (dsimp only; omega) | exact LeS.le | exact LeS.add _ | (simp; done) | (simp; omega)) _)))⟩
            case measure => simp [intOf]; omega
          · have g' : decide (x.k ≤ y.k) = true := by simpa using g
            go_wp2_with fail
            (refine wp_region_up (by kernel_rfl) (by kernel_rfl) ?_; (repeat (go_big_quiet_step ((go_at_call 31; exact Calls.up_same (l1In_any _ _ _ _))))); refine wpQuiet_nil ?_; intro _ hw'; obtain ⟨zq, hw''⟩ := hw'; subst hw'')
            go_wp2_with fail
            go_ret
            refine ⟨?_, (.of (by repeat (first | exact Ext.refl _ | refine Ext.up ?_ _ | refine Ext.alloc ?_ _ | refine Ext.drew ?_ | refine Ext.setRow ?_ (by first | (dsimp only; omega) | exact LeS.le | exact LeS.add _ | (simp; done) | (simp; omega)) _ | refine Ext.setCell ?_ (by first | (dsimp only; omega) | exact LeS.le | exact LeS.add _ | (simp; done) | (simp; omega)) _)))⟩
            show Ending.returned (.bool false) = _
            rw [entsOk, upTo_false hlt (by rw [Hat.out, h1, h2]; simpa using g)]
        all_goals
          go_wp2_with fail
          (refine wp_region_up (by kernel_rfl) (by kernel_rfl) ?_; (repeat (go_big_quiet_step ((go_at_call 31; exact Calls.up_same (l1In_any _ _ _ _))))); refine wpQuiet_nil ?_; intro _ hw'; obtain ⟨zq, hw''⟩ := hw'; subst hw'')
          go_wp2_with fail
          go_ret
          refine ⟨?_, (.of (by repeat (first | exact Ext.refl _ | refine Ext.up ?_ _ | refine Ext.alloc ?_ _ | refine Ext.drew ?_ | refine Ext.setRow ?_ (by first | (dsimp only; omega) | exact LeS.le | exact LeS.add _ | (simp; done) | (simp; omega)) _ | refine Ext.setCell ?_ (by first | (dsimp only; omega) | exact LeS.le | exact LeS.add _ | (simp; done) | (simp; omega)) _)))⟩
          show Ending.returned (.bool false) = _
          rw [entsOk, upTo_false hlt (by rw [Hat.out]; simp [*])]
      · have Hall := Lib.hid hall; have Hat := Lib.hid (entAt_first (least := 0) hxk h0)
        have k0 : decide ((0 : Int) < (k : Int)) = false := by simpa using h0
        clear hc hxk hall
        rcases guards2 (inR x.k 0 31) (inR x.v 0 1000000) with h1 | ⟨h1, h2⟩ | ⟨h1, h2⟩
        case inr.inr =>
          go_wp2_with fail
          (refine wp_region_up (by kernel_rfl) (by kernel_rfl) ?_; (repeat (go_big_quiet_step ((go_at_call 31; exact Calls.up_same (l1In_any _ _ _ _))))); refine wpQuiet_nil ?_; intro _ hw'; obtain ⟨zq, hw''⟩ := hw'; subst hw'')
          go_wp2_with fail
          go_roundw
          case rel => exact ⟨k + 1, by go_num, by omega, upTo_succ Hall.out (by rw [Hat.out, h1, h2]; rfl), (.of (by repeat (first | exact Ext.refl _ | refine Ext.up ?_ _ | refine Ext.alloc ?_ _ | refine Ext.drew ?_ | refine Ext.setRow ?_ (by first | (dsimp only; omega) | exact LeS.le | exact LeS.add _ | (simp; done) | (simp; omega)) _ | refine Ext.setCell ?_ (by first | (dsimp only; omega) | exact LeS.le | exact LeS.add _ | (simp; done) | (simp; omega)) _)))⟩
          case measure => simp [intOf]; omega
        all_goals
          go_wp2_with fail
          (refine wp_region_up (by kernel_rfl) (by kernel_rfl) ?_; (repeat (go_big_quiet_step ((go_at_call 31; exact Calls.up_same (l1In_any _ _ _ _))))); refine wpQuiet_nil ?_; intro _ hw'; obtain ⟨zq, hw''⟩ := hw'; subst hw'')
          go_wp2_with fail
          go_ret
          refine ⟨?_, (.of (by repeat (first | exact Ext.refl _ | refine Ext.up ?_ _ | refine Ext.alloc ?_ _ | refine Ext.drew ?_ | refine Ext.setRow ?_ (by first | (dsimp only; omega) | exact LeS.le | exact LeS.add _ | (simp; done) | (simp; omega)) _ | refine Ext.setCell ?_ (by first | (dsimp only; omega) | exact LeS.le | exact LeS.add _ | (simp; done) | (simp; omega)) _)))⟩
          show Ending.returned (.bool false) = _
          rw [entsOk, upTo_false hlt (by rw [Hat.out]; simp [*])]
    · go_wp2_with fail
      go_ret
      obtain rfl : k = l.length := by omega
      refine ⟨?_, z, rfl⟩; show Ending.returned (.bool true) = _; rw [entsOk, hall]
/-- What is found of a key. -/
def fndE (l : List Ent) (key : Int) : Int × Bool := match l.find? (fun e => e.k == key) with
  | some e => (e.v, true)
  | none => (0, false)
theorem find_at {l : List Ent} {key : Int} : ∀ {k : Nat} {x : Ent}, noK l key k = true → l[k]? = some x → x.k = key → l.find? (fun e => e.k == key) = some x := by
  intro k x hn hx hk
  have hl := (List.getElem?_eq_some_iff.1 hx).1
  have hs : l = l.take k ++ x :: l.drop (k + 1) := by
    conv => lhs; rw [← List.take_append_drop k l]
    congr 1
    rw [List.drop_eq_getElem_cons hl]
    congr 1
    exact (List.getElem?_eq_some_iff.1 hx).2
  rw [hs, List.find?_append]
  have h1 : (l.take k).find? (fun e => e.k == key) = none := by
    rw [List.find?_eq_none]
    intro y hy
    obtain ⟨i, hi⟩ := List.getElem?_of_mem hy
    have hik : i < k := by have := (List.getElem?_eq_some_iff.1 hi).1; rw [List.length_take] at this; omega
    rw [List.getElem?_take_of_lt hik] at hi
    have := upTo_iff.1 hn i hik
    rw [hi] at this
    simpa using this
  rw [h1, List.find?_cons]
  simp [hk]
theorem fndE_yes {l : List Ent} {key : Int} {k : Nat} {x : Ent} (hn : noK l key k = true) (hx : l[k]? = some x) (hk : x.k = key) : fndE l key = (x.v, true) := by
  unfold fndE; rw [find_at hn hx hk]
theorem fndE_no {l : List Ent} {key : Int} (hn : noK l key l.length = true) : fndE l key = (0, false) := by
  have : l.find? (fun e => e.k == key) = none := by
    rw [List.find?_eq_none]
    intro y hy
    obtain ⟨i, hi⟩ := List.getElem?_of_mem hy
    have := upTo_iff.1 hn i (List.getElem?_eq_some_iff.1 hi).1
    rw [hi] at this
    simpa using this
  unfold fndE; rw [this]
set_option maxHeartbeats 1000000 in
theorem l4Find_any (l : List Ent) (v : Value) (key : Int) (w : World) (h : SL (RF Ent.enc) 2 w v l) :
    Calls Tryz.prog 109 #[v, .int .i64 key] w fun e w' => e = .returned (.tuple #[.int .i64 (fndE l key).1, .bool (fndE l key).2]) ∧ w = w' := by
  obtain ⟨a, cap, rfl, hlen, hc⟩ := h.open
  clear h
  go_enter Tryz.func109, Tryz.ntmps109
  go_wp2_with fail
  go_loop [6] (fun s6 => ∃ k : Nat, s6 = .int .i64 k ∧ k ≤ l.length ∧ noK l key k = true) (fun s6 => l.length - (intOf s6).toNat)
  case atStart => exact ⟨0, rfl, Nat.zero_le _, rfl⟩
  case round =>
    obtain ⟨k, rfl, hk, hall⟩ := hrel
    by_cases hlt : k < l.length
    · obtain ⟨x, hxk⟩ := getElem?_some_of_lt hlt
      obtain ⟨b, off, rfl, hb, hcc⟩ := hc k x hxk
      have c0 : w.cell? ⟨b, off + k * 2, none⟩ = some (.int .i64 x.k) := hcc 0 _ rfl
      have c1 : w.cell? ⟨b, off + k * 2 + 1, none⟩ = some (.int .i64 x.v) := hcc 1 _ rfl
      have Hx := Lib.hid hxk; have Hall := Lib.hid hall
      clear hcc hc hxk hall
      rcases ne_cases x.k key with ⟨h1, _⟩ | ⟨h1, _⟩
      · have h1' : (x.k == key) = false := by simpa using h1
        go_wp2_with fail
        go_round
        case rel => exact ⟨k + 1, by go_num, by omega, noK_next Hall.out Hx.out h1⟩
        case measure => simp [intOf]; omega
      · have h1' : (x.k == key) = true := by simpa using h1
        have H1 := Lib.hid h1; clear h1
        go_wp2_with fail
        go_ret2
        exact ⟨by rw [fndE_yes Hall.out Hx.out H1.out]; rfl, rfl⟩
    · go_wp2_with fail
      go_ret2
      obtain rfl : k = l.length := by omega
      exact ⟨by rw [fndE_no hall]; rfl, rfl⟩
theorem seenV_find {s : List Ent} {L : List Lyr} (h : upTo (lyrAt L) L.length = true) {n : Nat} {x : Lyr} (hx : L[n]? = some x) {k : Nat} (hk : k < 32) :
    (seenV s L (n : Int)).getD k 0 = if (fndE x.w (k : Int)).2 = true then (fndE x.w (k : Int)).1 else (seenV s L x.b).getD k 0 := by
  rw [seenV_key h hx hk]
  unfold fndE
  cases x.w.find? (fun e => e.k == (k : Int)) <;> rfl
set_option maxRecDepth 100000 in
set_option maxHeartbeats 1000000 in
theorem l4Read_any (s : List Ent) (L : List Lyr) (v vl : Value) (n : Int) (key : Nat) (w : World) (h : SL (RF Ent.enc) 2 w v s) (hl : SY w vl L) (hs : entsOk 1 s = true) (hL : upTo (lyrAt L) L.length = true) (hn0 : -1 ≤ n) (hn1 : n < L.length) (hk : key < 32) :
    Calls Tryz.prog 76 #[v, vl, .int .i64 n, .int .i64 key] w fun e w' => e = .returned (.int .i64 ((seenV s L n).getD key 0)) ∧ w = w' := by
  obtain ⟨a, cap, rfl, hlen, _, hc⟩ := hl.open
  have H := Lib.hid h; have HS := Lib.hid hs; have HL := Lib.hid hL
  generalize hA : (seenV s L n).getD key 0 = A
  have HA := Lib.hid hA
  clear h hl hs hL hA
  go_enter Tryz.func76, Tryz.ntmps76
  go_wp2_with fail
  go_loop [2, 9, 10] (fun s2 _ _ => ∃ m : Int, s2 = .int .i64 m ∧ -1 ≤ m ∧ m < L.length ∧ Hid ((seenV s L m).getD key 0 = A)) (fun s2 _ _ => (intOf s2 + 1).toNat)
  case atStart => exact ⟨n, rfl, hn0, hn1, HA⟩
  case round =>
    obtain ⟨m, rfl, hm0, hm1, hA⟩ := hrel
    by_cases hlt : 0 ≤ m
    · obtain ⟨m, rfl⟩ : ∃ q : Nat, m = (q : Int) := ⟨m.toNat, by omega⟩
      obtain ⟨x, hxk⟩ := getElem?_some_of_lt (l := L) (k := m) (by omega)
      obtain ⟨b, off, p, c, rfl, hb, e0, e1, sx⟩ := hc m x hxk
      have hbl := lyr_below HL.out hxk
      obtain ⟨hb0, hb1, _⟩ := hbl
      have hfd := seenV_find (s := s) HL.out hxk hk
      have SX := Lib.hid sx
      have kf := fun w h => l4Find_any x.w (.slice p x.w.length c) (key : Int) w h
      rcases hf : (fndE x.w (key : Int)).2 with _ | _
      · rw [hf, if_neg (by decide)] at hfd
        have HN := Lib.hid (hfd.symm.trans hA.out)
        simp only [hf] at kf
        clear hf hfd hc hxk sx
        go_wp2_with (go_at_call 109; refine (kf _ (SX.out.up (by repeat (first | (with_reducible exact Ext.refl _) | (with_reducible refine Ext.up ?_ _) | (with_reducible refine Ext.alloc ?_ _) | (with_reducible refine Ext.drew ?_) | (with_reducible refine Ext.setRow ?_ (by first | exact LeS.le | exact LeS.add _ | (simp; done) | (simp; omega)) _) | (with_reducible refine Ext.setCell ?_ (by first | exact LeS.le | exact LeS.add _ | (simp; done) | (simp; omega)) _))))).mono ?_; rintro e w' ⟨rfl, rfl⟩)
        go_round
        case rel => exact ⟨x.b, rfl, hb0, by omega, HN⟩
        case measure => simp [intOf]; omega
      · rw [hf, if_pos rfl] at hfd
        have HN := Lib.hid (hfd.symm.trans hA.out)
        simp only [hf] at kf
        generalize (fndE x.w (key : Int)).1 = q at *
        clear hf hfd hc hxk sx
        go_wp2_with (go_at_call 109; refine (kf _ (SX.out.up (by repeat (first | (with_reducible exact Ext.refl _) | (with_reducible refine Ext.up ?_ _) | (with_reducible refine Ext.alloc ?_ _) | (with_reducible refine Ext.drew ?_) | (with_reducible refine Ext.setRow ?_ (by first | exact LeS.le | exact LeS.add _ | (simp; done) | (simp; omega)) _) | (with_reducible refine Ext.setCell ?_ (by first | exact LeS.le | exact LeS.add _ | (simp; done) | (simp; omega)) _))))).mono ?_; rintro e w' ⟨rfl, rfl⟩)
        go_ret
        exact ⟨by rw [HN.out]; rfl, rfl⟩
    · have hm : m < 0 := by omega
      have hv : atK s (key : Int) = A := by
        rw [← hA.out, seenV_neg s L hm, valsOf_getD HS.out hk]
      have HV := Lib.hid hv
      clear hv hc
      go_wp2_with (go_at_call 110; refine (l2At_any s v (key : Int) _ (H.out.up (by repeat (first | (with_reducible exact Ext.refl _) | (with_reducible refine Ext.up ?_ _) | (with_reducible refine Ext.alloc ?_ _) | (with_reducible refine Ext.drew ?_) | (with_reducible refine Ext.setRow ?_ (by first | exact LeS.le | exact LeS.add _ | (simp; done) | (simp; omega)) _) | (with_reducible refine Ext.setCell ?_ (by first | exact LeS.le | exact LeS.add _ | (simp; done) | (simp; omega)) _))))).mono ?_; rintro e w' ⟨rfl, rfl⟩)
      go_ret
      exact ⟨by rw [HV.out]; rfl, rfl⟩
theorem lyrsOk_iff {L : List Lyr} : lyrsOk L = true ↔ upTo (lyrAt L) L.length = true ∧ L.length ≤ 20 := by
  unfold lyrsOk
  rw [Bool.and_eq_true, decide_eq_true_eq]
  constructor <;> (rintro ⟨a, b⟩; exact ⟨a, by omega⟩)
set_option maxRecDepth 100000 in
set_option maxHeartbeats 1000000 in
theorem sLayersValid_yes (L : List Lyr) (vl : Value) (w : World) (hl : SY w vl L) (hL : lyrsOk L = true) :
    Calls Tryz.prog 75 #[vl] w fun e w' => e = .returned (.bool true) ∧ Up w w' := by
  obtain ⟨a, cap, rfl, hlen, _, hc⟩ := hl.open
  obtain ⟨h1, h2⟩ := lyrsOk_iff.1 hL
  have HL := Lib.hid h1
  clear hl hL h1
  go_enter Tryz.func75, Tryz.ntmps75
  go_wp2_with fail
  go_loopw [3] (fun s3 wr => ∃ (k : Nat), s3 = .int .i64 k ∧ k ≤ L.length ∧ Up w wr) (fun s3 _ => L.length - (intOf s3).toNat)
  case atStart => exact ⟨0, rfl, Nat.zero_le _, (.of (by repeat (first | (with_reducible exact Ext.refl _) | (with_reducible refine Ext.up ?_ _) | (with_reducible refine Ext.alloc ?_ _) | (with_reducible refine Ext.drew ?_) | (with_reducible refine Ext.setRow ?_ (by first | exact LeS.le | exact LeS.add _ | (simp; done) | (simp; omega)) _) | (with_reducible refine Ext.setCell ?_ (by first | exact LeS.le | exact LeS.add _ | (simp; done) | (simp; omega)) _))))⟩
  case round =>
    obtain ⟨k, rfl, hk, ⟨z, rfl⟩⟩ := hrel
    by_cases hlt : k < L.length
    · obtain ⟨x, hxk⟩ := getElem?_some_of_lt hlt
      obtain ⟨b, off, p, c, rfl, hb, e0, e1, sx⟩ := hc k x hxk
      obtain ⟨hb0, hb1, hbw⟩ := lyr_below HL.out hxk
      have SX := Lib.hid sx
      have kw := fun w h => sWrites_any x.w (.slice p x.w.length c) w h
      rw [hbw] at kw
      have hw1 : IntKind.i64.wrap ((k : Int) - 1) = (k : Int) - 1 := IntWalk.i64_in _ (by omega)
      have ki := fun w => l1In_any x.b (-1) ((k : Int) - 1) w
      rw [show inR x.b (-1) ((k : Int) - 1) = true from inR_iff.2 ⟨hb0, by omega⟩] at ki
      have k0 : (0 : Int) ≤ (k : Int) := by omega
      clear hc hxk sx hbw hb0 hb1
      go_wp2_with (first | (go_at_call 31; refine (ki _).mono ?_; rintro e w' ⟨rfl, rfl⟩) | (go_at_call 108; refine (kw _ (SX.out.up (by repeat (first | (with_reducible exact Ext.refl _) | (with_reducible refine Ext.up ?_ _) | (with_reducible refine Ext.alloc ?_ _) | (with_reducible refine Ext.drew ?_) | (with_reducible refine Ext.setRow ?_ (by first | exact LeS.le | exact LeS.add _ | (simp; done) | (simp; omega)) _) | (with_reducible refine Ext.setCell ?_ (by first | exact LeS.le | exact LeS.add _ | (simp; done) | (simp; omega)) _))))).mono ?_; rintro e w' ⟨rfl, z1, rfl⟩))
      go_roundw
      case rel => exact ⟨k + 1, by go_num, by omega, (.of (by repeat (first | (with_reducible exact Ext.refl _) | (with_reducible refine Ext.up ?_ _) | (with_reducible refine Ext.alloc ?_ _) | (with_reducible refine Ext.drew ?_) | (with_reducible refine Ext.setRow ?_ (by first | exact LeS.le | exact LeS.add _ | (simp; done) | (simp; omega)) _) | (with_reducible refine Ext.setCell ?_ (by first | exact LeS.le | exact LeS.add _ | (simp; done) | (simp; omega)) _))))⟩
      case measure => simp [intOf]; omega
    · go_wp2_with fail
      go_ret
      refine ⟨?_, z, rfl⟩
      first | rfl | simp; omega
set_option maxRecDepth 100000 in
set_option maxHeartbeats 1000000 in
theorem sLayerStore_yes (s : List Ent) (L : List Lyr) (v vl : Value) (n : Int) (w : World) (h : SL (RF Ent.enc) 2 w v s) (hl : SY w vl L) (hs : entsOk 1 s = true) (hL : lyrsOk L = true) (hn0 : -1 ≤ n) (hn1 : n < L.length) :
    Calls Tryz.prog 27 #[v, vl, .int .i64 n] w fun e w' => ∃ v', e = .returned v' ∧ Up w w' ∧ Own Ent.enc 64 2 w.heap.size w' v' (storeOf (seenV s L n)) := by
  obtain ⟨p0, c0, rfl, _, _⟩ := h.openc
  obtain ⟨a, cap, rfl⟩ := hl.openc
  obtain ⟨h1, h2⟩ := lyrsOk_iff.1 hL
  have H := Lib.hid h; have HY := Lib.hid hl
  have ks := fun w h => sStoreValid_any s (.slice p0 s.length c0) w h
  rw [hs] at ks
  have kl := fun w h => sLayersValid_yes L (.slice a L.length cap) w h hL
  have ki := fun w => l1In_any n (-1) ((L.length : Int) - 1) w
  rw [show inR n (-1) ((L.length : Int) - 1) = true from inR_iff.2 ⟨hn0, by omega⟩] at ki
  have kr := fun key w h h' hk => l4Read_any s L (.slice p0 s.length c0) (.slice a L.length cap) n key w h h' hs h1 hn0 hn1 hk
  have hsl := seenV_len (s := s) h1 n
  have hw1 : IntKind.i64.wrap ((L.length : Int) - 1) = (L.length : Int) - 1 := IntWalk.i64_in _ (by omega)
  generalize hV : seenV s L n = V at *
  have Hsl := Lib.hid hsl
  have hlit := Lib.hid (show Own Ent.enc 64 2 w.heap.size (w.alloc (.cells #[] 64)) (.slice (some ⟨w.heap.size, 0, none⟩) 0 0) (stTo V 0) from Own.lit rfl (Nat.le_refl _) rfl rfl Ent.enc_length (Nat.zero_le _))
  clear hV hsl h hl hs hL h1 hn0 hn1
  go_enter Tryz.func27, Tryz.ntmps27
  go_wp2_with (first | (go_at_call 30; refine (ks _ (H.out.up (by repeat (first | (with_reducible exact Ext.refl _) | (with_reducible refine Ext.up ?_ _) | (with_reducible refine Ext.alloc ?_ _) | (with_reducible refine Ext.drew ?_) | (with_reducible refine Ext.setRow ?_ (by first | exact LeS.le | exact LeS.add _ | (simp; done) | (simp; omega)) _) | (with_reducible refine Ext.setCell ?_ (by first | exact LeS.le | exact LeS.add _ | (simp; done) | (simp; omega)) _))))).mono ?_; rintro e w' ⟨rfl, z1, rfl⟩) | (go_at_call 75; refine (kl _ (HY.out.up (by repeat (first | (with_reducible exact Ext.refl _) | (with_reducible refine Ext.up ?_ _) | (with_reducible refine Ext.alloc ?_ _) | (with_reducible refine Ext.drew ?_) | (with_reducible refine Ext.setRow ?_ (by first | exact LeS.le | exact LeS.add _ | (simp; done) | (simp; omega)) _) | (with_reducible refine Ext.setCell ?_ (by first | exact LeS.le | exact LeS.add _ | (simp; done) | (simp; omega)) _))))).mono ?_; rintro e w' ⟨rfl, z2, rfl⟩) | (go_at_call 31; refine (ki _).mono ?_; rintro e w' ⟨rfl, rfl⟩))
  go_loopw [7, 8, 9] (fun s7 s8 _ wr => ∃ k : Nat, s8 = .int .i64 k ∧ k ≤ 32 ∧ Up w wr ∧ Own Ent.enc 64 2 w.heap.size wr s7 (stTo V k)) (fun _ s8 _ _ => 32 - (intOf s8).toNat)
  case atStart => exact ⟨0, rfl, Nat.zero_le _, (.of (by repeat (first | (with_reducible exact Ext.refl _) | (with_reducible refine Ext.up ?_ _) | (with_reducible refine Ext.alloc ?_ _) | (with_reducible refine Ext.drew ?_) | (with_reducible refine Ext.setRow ?_ (by first | exact LeS.le | exact LeS.add _ | (simp; done) | (simp; omega)) _) | (with_reducible refine Ext.setCell ?_ (by first | exact LeS.le | exact LeS.add _ | (simp; done) | (simp; omega)) _)))), hlit.out.up (by repeat (first | (with_reducible exact Ext.refl _) | (with_reducible refine Ext.up ?_ _) | (with_reducible refine Ext.alloc ?_ _) | (with_reducible refine Ext.drew ?_) | (with_reducible refine Ext.setRow ?_ (by first | exact LeS.le | exact LeS.add _ | (simp; done) | (simp; omega)) _) | (with_reducible refine Ext.setCell ?_ (by first | exact LeS.le | exact LeS.add _ | (simp; done) | (simp; omega)) _)))⟩
  case round =>
    obtain ⟨k, rfl, hk, ⟨z, rfl⟩, hown⟩ := hrel
    have Hown := Lib.hid hown; clear hown
    by_cases hlt : k < 32
    · obtain ⟨x, hx⟩ := getElem?_some_of_lt (l := V) (k := k) (by rw [Hsl.out]; exact hlt)
      have hxd : V.getD k 0 = x := by rw [List.getD_eq_getElem?_getD, hx]; rfl
      have kk := fun w h h' => kr k w h h' hlt
      rw [hxd] at kk
      have hle : (stTo V k).length ≤ k := stTo_len V k
      have k31 : (k : Int) ≤ 31 := by omega
      have k0 : (0 : Int) ≤ (k : Int) := by omega
      by_cases hp : 0 < x
      · have Hs := Lib.hid (stTo_yes hx hp)
        have hp' : decide (0 < x) = true := by simpa using hp
        clear hx hxd
        go_wp2_with (first | (go_at_call 76; refine (kk _ (H.out.up (by repeat (first | (with_reducible exact Ext.refl _) | (with_reducible refine Ext.up ?_ _) | (with_reducible refine Ext.alloc ?_ _) | (with_reducible refine Ext.drew ?_) | (with_reducible refine Ext.setRow ?_ (by first | exact LeS.le | exact LeS.add _ | (simp; done) | (simp; omega)) _) | (with_reducible refine Ext.setCell ?_ (by first | exact LeS.le | exact LeS.add _ | (simp; done) | (simp; omega)) _)))) (HY.out.up (by repeat (first | (with_reducible exact Ext.refl _) | (with_reducible refine Ext.up ?_ _) | (with_reducible refine Ext.alloc ?_ _) | (with_reducible refine Ext.drew ?_) | (with_reducible refine Ext.setRow ?_ (by first | exact LeS.le | exact LeS.add _ | (simp; done) | (simp; omega)) _) | (with_reducible refine Ext.setCell ?_ (by first | exact LeS.le | exact LeS.add _ | (simp; done) | (simp; omega)) _))))).mono ?_; rintro e w' ⟨rfl, rfl⟩) | (at_builtin; refine wpList_push1 fEnt rfl (.tmp 39) (.tmp 43) rfl Ent.enc w ⟨(k : Int), x⟩ (stTo V k) rfl (Hown.out.up (by repeat (first | (with_reducible exact Ext.refl _) | (with_reducible refine Ext.up ?_ _) | (with_reducible refine Ext.alloc ?_ _) | (with_reducible refine Ext.drew ?_) | (with_reducible refine Ext.setRow ?_ (by first | exact LeS.le | exact LeS.add _ | (simp; done) | (simp; omega)) _) | (with_reducible refine Ext.setCell ?_ (by first | exact LeS.le | exact LeS.add _ | (simp; done) | (simp; omega)) _)))) (by repeat (first | (with_reducible exact Ext.refl _) | (with_reducible refine Ext.up ?_ _) | (with_reducible refine Ext.alloc ?_ _) | (with_reducible refine Ext.drew ?_) | (with_reducible refine Ext.setRow ?_ (by first | exact LeS.le | exact LeS.add _ | (simp; done) | (simp; omega)) _) | (with_reducible refine Ext.setCell ?_ (by first | exact LeS.le | exact LeS.add _ | (simp; done) | (simp; omega)) _))) rfl (by go_simp) rfl rfl (oneE _) (by omega) (by omega) ?_; intro v1 z1 hown1; have hown2 := Lib.hid hown1; clear hown1))
        go_roundw
        case rel => exact ⟨k + 1, by go_num, by omega, (.of (by repeat (first | (with_reducible exact Ext.refl _) | (with_reducible refine Ext.up ?_ _) | (with_reducible refine Ext.alloc ?_ _) | (with_reducible refine Ext.drew ?_) | (with_reducible refine Ext.setRow ?_ (by first | exact LeS.le | exact LeS.add _ | (simp; done) | (simp; omega)) _) | (with_reducible refine Ext.setCell ?_ (by first | exact LeS.le | exact LeS.add _ | (simp; done) | (simp; omega)) _)))), by rw [Hs.out]; exact hown2.out⟩
        case measure => simp [intOf]; omega
      · have Hs := Lib.hid (stTo_no hx hp)
        have hp' : decide (0 < x) = false := by simpa using hp
        clear hx hxd
        go_wp2_with (go_at_call 76; refine (kk _ (H.out.up (by repeat (first | (with_reducible exact Ext.refl _) | (with_reducible refine Ext.up ?_ _) | (with_reducible refine Ext.alloc ?_ _) | (with_reducible refine Ext.drew ?_) | (with_reducible refine Ext.setRow ?_ (by first | exact LeS.le | exact LeS.add _ | (simp; done) | (simp; omega)) _) | (with_reducible refine Ext.setCell ?_ (by first | exact LeS.le | exact LeS.add _ | (simp; done) | (simp; omega)) _)))) (HY.out.up (by repeat (first | (with_reducible exact Ext.refl _) | (with_reducible refine Ext.up ?_ _) | (with_reducible refine Ext.alloc ?_ _) | (with_reducible refine Ext.drew ?_) | (with_reducible refine Ext.setRow ?_ (by first | exact LeS.le | exact LeS.add _ | (simp; done) | (simp; omega)) _) | (with_reducible refine Ext.setCell ?_ (by first | exact LeS.le | exact LeS.add _ | (simp; done) | (simp; omega)) _))))).mono ?_; rintro e w' ⟨rfl, rfl⟩)
        go_roundw
        case rel => exact ⟨k + 1, by go_num, by omega, (.of (by repeat (first | (with_reducible exact Ext.refl _) | (with_reducible refine Ext.up ?_ _) | (with_reducible refine Ext.alloc ?_ _) | (with_reducible refine Ext.drew ?_) | (with_reducible refine Ext.setRow ?_ (by first | exact LeS.le | exact LeS.add _ | (simp; done) | (simp; omega)) _) | (with_reducible refine Ext.setCell ?_ (by first | exact LeS.le | exact LeS.add _ | (simp; done) | (simp; omega)) _)))), by rw [Hs.out]; exact Hown.out.up (by repeat (first | (with_reducible exact Ext.refl _) | (with_reducible refine Ext.up ?_ _) | (with_reducible refine Ext.alloc ?_ _) | (with_reducible refine Ext.drew ?_) | (with_reducible refine Ext.setRow ?_ (by first | exact LeS.le | exact LeS.add _ | (simp; done) | (simp; omega)) _) | (with_reducible refine Ext.setCell ?_ (by first | exact LeS.le | exact LeS.add _ | (simp; done) | (simp; omega)) _)))⟩
        case measure => simp [intOf]; omega
    · have hk' : ¬ (k : Int) ≤ 31 := by omega
      obtain rfl : k = 32 := by omega
      go_wp2_with fail
      go_ret
      exact ⟨_, rfl, (.of (by repeat (first | (with_reducible exact Ext.refl _) | (with_reducible refine Ext.up ?_ _) | (with_reducible refine Ext.alloc ?_ _) | (with_reducible refine Ext.drew ?_) | (with_reducible refine Ext.setRow ?_ (by first | exact LeS.le | exact LeS.add _ | (simp; done) | (simp; omega)) _) | (with_reducible refine Ext.setCell ?_ (by first | exact LeS.le | exact LeS.add _ | (simp; done) | (simp; omega)) _)))), Hown.out⟩
end Go.Proofs.YteiemjebdhmnaaaGreat
