/- Walks: stores on the reference's side; versions that are read. -/
import Derived.Test.YtkboefmkfpnpjaaGEsLTop03
set_option linter.unusedSimpArgs false
set_option linter.unusedVariables false
namespace Go.Proofs.Ytkboefmkfpnpjaa
open Go Go.RowKit Go.Proofs

set_option maxHeartbeats 2000000 in
theorem sStoreValid_any (l : List Ent) (v : Value) (w : World) (h : SL (RF Ent.enc) 2 w v l) :
    Calls Try.prog 26 #[v] w fun e w' => e = .returned (.bool (entsOk 1 l)) ∧ Up w w' := by
  obtain ⟨a, cap, rfl, hlen, hc⟩ := h.open
  clear h
  go_enter Try.func26, Try.ntmps26
  go_wp2_with fail
  go_loopw [3] (fun s3 wr => ∃ k : Nat, s3 = .int .i64 k ∧ k ≤ l.length ∧ upTo (entAt 1 l) k = true ∧ Up w wr) (fun s3 _ => l.length - (intOf s3).toNat)
  case atStart => exact ⟨0, rfl, Nat.zero_le _, rfl, .of (Ext.refl _)⟩
  case round =>
    obtain ⟨k, rfl, hk, hall, z, rfl⟩ := hrel
    by_cases hlt : k < l.length
    · obtain ⟨x, hxk⟩ := getElem?_some_of_lt hlt
      obtain ⟨b, off, rfl, hb, hcc⟩ := hc k x hxk
      have c0 : w.cell? ⟨b, off + k * 2, none⟩ = some (.int .i64 x.k) := hcc 0 _ rfl
      have c1 : w.cell? ⟨b, off + k * 2 + 1, none⟩ = some (.int .i64 x.v) := hcc 1 _ rfl
      have kk : (0 : Int) ≤ (k : Int) := by omega
      have kl : (k : Int) < l.length := by omega
      clear hcc
      by_cases h0 : 0 < k
      · obtain ⟨y, hyk⟩ := getElem?_some_of_lt (show k - 1 < l.length by omega)
        obtain ⟨b', off', hbo, _, hdd⟩ := hc (k - 1) y hyk
        simp only [Option.some.injEq, Addr.mk.injEq, and_true] at hbo
        obtain ⟨rfl, rfl⟩ := hbo
        have d0 : w.cell? ⟨b, off + (k - 1) * 2, none⟩ = some (.int .i64 y.k) := hdd 0 _ rfl
        have Hall := Lib.hid hall; have Hat := Lib.hid (entAt_next (least := 1) hxk h0 hyk)
        have k0 : decide ((0 : Int) < (k : Int)) = true := by simpa using h0
        have ks : IntKind.i64.wrap ((k : Int) - 1) = ((k - 1 : Nat) : Int) := by rw [IntWalk.i64_in _ (by omega)]; omega
        have ks0 : (0 : Int) ≤ (k : Int) - 1 := by omega
        have ks1 : (k : Int) - 1 < l.length := by omega
        have ks2 : ((k : Int) - 1).toNat = k - 1 := by omega
        clear hc hdd hxk hall hyk
        rcases guards2 (inR x.k 0 31) (inR x.v 1 1000000) with h1 | ⟨h1, h2⟩ | ⟨h1, h2⟩
        case inr.inr =>
          by_cases g : y.k < x.k
          · have g' : decide (x.k ≤ y.k) = false := by simpa using g
            go_wp2_with fail
            (refine wp_region_up (by kernel_rfl) (by kernel_rfl) ?_; (repeat (go_big_quiet_step ((go_at_call 66; exact Calls.up_same (l1In_any _ _ _ _))))); refine wpQuiet_nil ?_; intro _ hw'; obtain ⟨zq, hw''⟩ := hw'; subst hw'')
            go_wp2_with fail
            go_roundw
            case rel => exact ⟨k + 1, by go_num, by omega, upTo_succ Hall.out (by rw [Hat.out, h1, h2]; simpa using g), (.of (by repeat (first | exact Ext.refl _ | refine Ext.up ?_ _ | refine Ext.alloc ?_ _ | refine Ext.drew ?_ | refine Ext.setRow ?_ (by first | (dsimp only; omega) | exact LeS.le | exact LeS.add _ | (simp; done) | (simp; omega)) _ | refine Ext.setCell ?_ (by first | (dsimp only; omega) | exact LeS.le | exact LeS.add _ | (simp; done) | (simp; omega)) _)))⟩
            case measure => simp [intOf]; omega
          · have g' : decide (x.k ≤ y.k) = true := by simpa using g
            go_wp2_with fail
            (refine wp_region_up (by kernel_rfl) (by kernel_rfl) ?_; (repeat (go_big_quiet_step ((go_at_call 66; exact Calls.up_same (l1In_any _ _ _ _))))); refine wpQuiet_nil ?_; intro _ hw'; obtain ⟨zq, hw''⟩ := hw'; subst hw'')
            go_wp2_with fail
            go_ret
            refine ⟨?_, (.of (by repeat (first | exact Ext.refl _ | refine Ext.up ?_ _ | refine Ext.alloc ?_ _ | refine Ext.drew ?_ | refine Ext.setRow ?_ (by first | (dsimp only; omega) | exact LeS.le | exact LeS.add _ | (simp; done) | (simp; omega)) _ | refine Ext.setCell ?_ (by first | (dsimp only; omega) | exact LeS.le | exact LeS.add _ | (simp; done) | (simp; omega)) _)))⟩
            show Ending.returned (.bool false) = _
            rw [entsOk, upTo_false hlt (by rw [Hat.out, h1, h2]; simpa using g)]
        all_goals
          go_wp2_with fail
          (refine wp_region_up (by kernel_rfl) (by kernel_rfl) ?_; (repeat (go_big_quiet_step ((go_at_call 66; exact Calls.up_same (l1In_any _ _ _ _))))); refine wpQuiet_nil ?_; intro _ hw'; obtain ⟨zq, hw''⟩ := hw'; subst hw'')
          go_wp2_with fail
          go_ret
          refine ⟨?_, (.of (by repeat (first | exact Ext.refl _ | refine Ext.up ?_ _ | refine Ext.alloc ?_ _ | refine Ext.drew ?_ | refine Ext.setRow ?_ (by first | (dsimp only; omega) | exact LeS.le | exact LeS.add _ | (simp; done) | (simp; omega)) _ | refine Ext.setCell ?_ (by first | (dsimp only; omega) | exact LeS.le | exact LeS.add _ | (simp; done) | (simp; omega)) _)))⟩
          show Ending.returned (.bool false) = _
          rw [entsOk, upTo_false hlt (by rw [Hat.out]; simp [*])]
      · have Hall := Lib.hid hall; have Hat := Lib.hid (entAt_first (least := 1) hxk h0)
        have k0 : decide ((0 : Int) < (k : Int)) = false := by simpa using h0
        clear hc hxk hall
        rcases guards2 (inR x.k 0 31) (inR x.v 1 1000000) with h1 | ⟨h1, h2⟩ | ⟨h1, h2⟩
        case inr.inr =>
          go_wp2_with fail
          (refine wp_region_up (by kernel_rfl) (by kernel_rfl) ?_; (repeat (go_big_quiet_step ((go_at_call 66; exact Calls.up_same (l1In_any _ _ _ _))))); refine wpQuiet_nil ?_; intro _ hw'; obtain ⟨zq, hw''⟩ := hw'; subst hw'')
          go_wp2_with fail
          go_roundw
          case rel => exact ⟨k + 1, by go_num, by omega, upTo_succ Hall.out (by rw [Hat.out, h1, h2]; rfl), (.of (by repeat (first | exact Ext.refl _ | refine Ext.up ?_ _ | refine Ext.alloc ?_ _ | refine Ext.drew ?_ | refine Ext.setRow ?_ (by first | (dsimp only; omega) | exact LeS.le | exact LeS.add _ | (simp; done) | (simp; omega)) _ | refine Ext.setCell ?_ (by first | (dsimp only; omega) | exact LeS.le | exact LeS.add _ | (simp; done) | (simp; omega)) _)))⟩
          case measure => simp [intOf]; omega
        all_goals
          go_wp2_with fail
          (refine wp_region_up (by kernel_rfl) (by kernel_rfl) ?_; (repeat (go_big_quiet_step ((go_at_call 66; exact Calls.up_same (l1In_any _ _ _ _))))); refine wpQuiet_nil ?_; intro _ hw'; obtain ⟨zq, hw''⟩ := hw'; subst hw'')
          go_wp2_with fail
          go_ret
          refine ⟨?_, (.of (by repeat (first | exact Ext.refl _ | refine Ext.up ?_ _ | refine Ext.alloc ?_ _ | refine Ext.drew ?_ | refine Ext.setRow ?_ (by first | (dsimp only; omega) | exact LeS.le | exact LeS.add _ | (simp; done) | (simp; omega)) _ | refine Ext.setCell ?_ (by first | (dsimp only; omega) | exact LeS.le | exact LeS.add _ | (simp; done) | (simp; omega)) _)))⟩
          show Ending.returned (.bool false) = _
          rw [entsOk, upTo_false hlt (by rw [Hat.out]; simp [*])]
    · go_wp2_with fail
      go_ret
      obtain rfl : k = l.length := by omega
      refine ⟨?_, z, rfl⟩; show Ending.returned (.bool true) = _; rw [entsOk, hall]
set_option maxHeartbeats 1000000 in
theorem l2At_any (l : List Ent) (v : Value) (key : Int) (w : World) (h : SL (RF Ent.enc) 2 w v l) :
    Calls Try.prog 139 #[v, .int .i64 key] w fun e w' => e = .returned (.int .i64 (atK l key)) ∧ w = w' := by
  obtain ⟨a, cap, rfl, hlen, hc⟩ := h.open
  clear h
  go_enter Try.func139, Try.ntmps139
  go_wp2_with fail
  go_loop [5] (fun s5 => ∃ k : Nat, s5 = .int .i64 k ∧ k ≤ l.length ∧ noK l key k = true) (fun s5 => l.length - (intOf s5).toNat)
  case atStart => exact ⟨0, rfl, Nat.zero_le _, rfl⟩
  case round =>
    obtain ⟨k, rfl, hk, hall⟩ := hrel
    by_cases hlt : k < l.length
    · obtain ⟨x, hxk⟩ := getElem?_some_of_lt hlt
      obtain ⟨b, off, rfl, hb, hcc⟩ := hc k x hxk
      have c0 : w.cell? ⟨b, off + k * 2, none⟩ = some (.int .i64 x.k) := hcc 0 _ rfl
      have c1 : w.cell? ⟨b, off + k * 2 + 1, none⟩ = some (.int .i64 x.v) := hcc 1 _ rfl
      have Hx := Lib.hid hxk; have Hall := Lib.hid hall
      clear hcc hc hxk hall
      rcases ne_cases x.k key with ⟨h1, _⟩ | ⟨h1, _⟩
      · have h1' : (x.k == key) = false := by simpa using h1
        go_wp2_with fail
        go_round
        case rel => exact ⟨k + 1, by go_num, by omega, noK_next Hall.out Hx.out h1⟩
        case measure => simp [intOf]; omega
      · have h1' : (x.k == key) = true := by simpa using h1
        have H1 := Lib.hid h1; clear h1
        go_wp2_with fail
        go_ret
        exact ⟨by rw [atK_found Hall.out Hx.out H1.out]; rfl, rfl⟩
    · go_wp2_with fail
      go_ret
      obtain rfl : k = l.length := by omega
      exact ⟨by rw [atK_none hall]; rfl, rfl⟩
set_option maxHeartbeats 1000000 in
theorem l9Read_any (s : List Ent) (l : List Ver) (u v : Value) (key by_ : Int) (w : World) (hs : SL (RF Ent.enc) 2 w u s) (h : SL (RF Ver.enc) 3 w v l) :
    Calls Try.prog 151 #[u, v, .int .i64 key, .int .i64 by_] w fun e w' => e = .returned (.tuple #[.int .i64 (readV (atK s key) l key by_).1, .int .i64 (readV (atK s key) l key by_).2]) ∧ w = w' := by
  obtain ⟨a, cap, rfl, hlen, hc⟩ := h.open
  have Hs := Lib.hid hs
  clear h hs
  go_enter Try.func151, Try.ntmps151
  go_wp2_with (go_at_call 139; refine (l2At_any s _ _ _ Hs.out).mono ?_; rintro e w' ⟨rfl, rfl⟩)
  go_loop [10, 11, 12] (fun s10 s11 s12 => ∃ k : Nat, s12 = .int .i64 k ∧ s10 = .int .i64 (readV (atK s key) (l.take k) key by_).1 ∧ s11 = .int .i64 (readV (atK s key) (l.take k) key by_).2 ∧ k ≤ l.length) (fun _ _ s12 => l.length - (intOf s12).toNat)
  case atStart => exact ⟨0, rfl, rfl, rfl, Nat.zero_le _⟩
  case round =>
    obtain ⟨k, rfl, rfl, rfl, hk⟩ := hrel
    by_cases hlt : k < l.length
    · obtain ⟨x, hxk⟩ := getElem?_some_of_lt hlt
      obtain ⟨b, off, rfl, hb, hcc⟩ := hc k x hxk
      have c0 : w.cell? ⟨b, off + k * 3, none⟩ = some (.int .i64 x.k) := hcc 0 _ rfl
      have c1 : w.cell? ⟨b, off + k * 3 + 1, none⟩ = some (.int .i64 x.b) := hcc 1 _ rfl
      have c2 : w.cell? ⟨b, off + k * 3 + 2, none⟩ = some (.int .i64 x.v) := hcc 2 _ rfl
      have Hr := Lib.hid (readV_snoc (atK s key) key by_ hxk)
      clear hcc hc hxk
      rcases ne_cases x.k key with ⟨h1, _⟩ | ⟨h1, _⟩
      · have h1' : (x.k == key) = false := by simpa using h1
        have hst := rdStep_no1 (by_ := by_) (p := readV (atK s key) (l.take k) key by_) h1
        have Hst := Lib.hid hst; clear hst
        go_wp2_with fail
        go_round
        case rel => exact ⟨k + 1, by go_num, by rw [Hr.out, Hst.out], by rw [Hr.out, Hst.out], by omega⟩
        case measure => simp [intOf]; omega
      · have h1' : (x.k == key) = true := by simpa using h1
        by_cases h2 : x.b < by_
        · have h2' : decide (x.b < by_) = true := by simpa using h2
          have hst := rdStep_yes (p := readV (atK s key) (l.take k) key by_) h1 h2
          have Hst := Lib.hid hst; clear hst h1
          go_wp2_with fail
          go_round
          case rel => exact ⟨k + 1, by go_num, by rw [Hr.out, Hst.out], by rw [Hr.out, Hst.out], by omega⟩
          case measure => simp [intOf]; omega
        · have h2' : decide (x.b < by_) = false := by simpa using h2
          have hst := rdStep_no2 (key := key) (p := readV (atK s key) (l.take k) key by_) h2
          have Hst := Lib.hid hst; clear hst h1
          go_wp2_with fail
          go_round
          case rel => exact ⟨k + 1, by go_num, by rw [Hr.out, Hst.out], by rw [Hr.out, Hst.out], by omega⟩
          case measure => simp [intOf]; omega
    · go_wp2_with fail
      go_ret2
      obtain rfl : k = l.length := by omega
      rw [List.take_length]
      exact ⟨rfl, rfl⟩
set_option maxHeartbeats 1000000 in
theorem read_any (bs : List Int) (base : Int) (l : List Ver) (v : Value) (key by_ : Int) (w : World) (hb : bs[key.toNat]? = some base) (k0 : 0 ≤ key) (k1 : key ≤ 31) (h : SL (RF Ver.enc) 3 w v l) :
    Calls Try.prog 92 #[.agg (vA bs), v, .int .i64 key, .int .i64 by_] w fun e w' => e = .returned (.tuple #[.int .i64 (readV base l key by_).1, .int .i64 (readV base l key by_).2]) ∧ Up w w' := by
  obtain ⟨a, cap, rfl, hlen, hc⟩ := h.open
  have hcell := (Row.new 99 w bs).cell hb
  clear h hb
  go_enter Try.func92, Try.ntmps92
  go_wp2_with fail
  go_loopw [10, 11, 13, 19] (fun s10 s11 _ s19 wr => ∃ k : Nat, s19 = .int .i64 k ∧ s10 = .int .i64 (readV base (l.take k) key by_).1 ∧ s11 = .int .i64 (readV base (l.take k) key by_).2 ∧ k ≤ l.length ∧ Up w wr) (fun _ _ _ s19 _ => l.length - (intOf s19).toNat)
  case atStart => exact ⟨0, rfl, rfl, rfl, Nat.zero_le _, (.of (by repeat (first | exact Ext.refl _ | refine Ext.up ?_ _ | refine Ext.alloc ?_ _ | refine Ext.drew ?_ | refine Ext.setRow ?_ (by first | (dsimp only; omega) | exact LeS.le | exact LeS.add _ | (simp; done) | (simp; omega)) _ | refine Ext.setCell ?_ (by first | (dsimp only; omega) | exact LeS.le | exact LeS.add _ | (simp; done) | (simp; omega)) _)))⟩
  case round =>
    obtain ⟨k, rfl, rfl, rfl, hk, z, rfl⟩ := hrel
    by_cases hlt : k < l.length
    · obtain ⟨x, hxk⟩ := getElem?_some_of_lt hlt
      obtain ⟨b, off, rfl, hb, hcc⟩ := hc k x hxk
      have c0 : w.cell? ⟨b, off + k * 3, none⟩ = some (.int .i64 x.k) := hcc 0 _ rfl
      have c1 : w.cell? ⟨b, off + k * 3 + 1, none⟩ = some (.int .i64 x.b) := hcc 1 _ rfl
      have c2 : w.cell? ⟨b, off + k * 3 + 2, none⟩ = some (.int .i64 x.v) := hcc 2 _ rfl
      have Hr := Lib.hid (readV_snoc base key by_ hxk)
      clear hcc hc hxk hcell
      rcases ne_cases x.k key with ⟨h1, _⟩ | ⟨h1, _⟩
      · have h1' : (x.k == key) = false := by simpa using h1
        have hst := rdStep_no1 (by_ := by_) (p := readV base (l.take k) key by_) h1
        have Hst := Lib.hid hst; clear hst
        go_wp2_with fail
        go_roundw
        case rel => exact ⟨k + 1, by go_num, by rw [Hr.out, Hst.out], by rw [Hr.out, Hst.out], by omega, (.of (by repeat (first | exact Ext.refl _ | refine Ext.up ?_ _ | refine Ext.alloc ?_ _ | refine Ext.drew ?_ | refine Ext.setRow ?_ (by first | (dsimp only; omega) | exact LeS.le | exact LeS.add _ | (simp; done) | (simp; omega)) _ | refine Ext.setCell ?_ (by first | (dsimp only; omega) | exact LeS.le | exact LeS.add _ | (simp; done) | (simp; omega)) _)))⟩
        case measure => simp [intOf]; omega
      · have h1' : (x.k == key) = true := by simpa using h1
        by_cases h2 : x.b < by_
        · have h2' : decide (x.b < by_) = true := by simpa using h2
          have hst := rdStep_yes (p := readV base (l.take k) key by_) h1 h2
          have Hst := Lib.hid hst; clear hst h1
          go_wp2_with fail
          (refine wp_region_up (by kernel_rfl) (by kernel_rfl) ?_; (repeat (go_big_quiet_step (fail))); refine wpQuiet_nil ?_; intro _ hw'; obtain ⟨zq, hw''⟩ := hw'; subst hw'')
          go_wp2_with fail
          go_roundw
          case rel => exact ⟨k + 1, by go_num, by rw [Hr.out, Hst.out], by rw [Hr.out, Hst.out], by omega, (.of (by repeat (first | exact Ext.refl _ | refine Ext.up ?_ _ | refine Ext.alloc ?_ _ | refine Ext.drew ?_ | refine Ext.setRow ?_ (by first | (dsimp only; omega) | exact LeS.le | exact LeS.add _ | (simp; done) | (simp; omega)) _ | refine Ext.setCell ?_ (by first | (dsimp only; omega) | exact LeS.le | exact LeS.add _ | (simp; done) | (simp; omega)) _)))⟩
          case measure => simp [intOf]; omega
        · have h2' : decide (x.b < by_) = false := by simpa using h2
          have hst := rdStep_no2 (key := key) (p := readV base (l.take k) key by_) h2
          have Hst := Lib.hid hst; clear hst h1
          go_wp2_with fail
          go_roundw
          case rel => exact ⟨k + 1, by go_num, by rw [Hr.out, Hst.out], by rw [Hr.out, Hst.out], by omega, (.of (by repeat (first | exact Ext.refl _ | refine Ext.up ?_ _ | refine Ext.alloc ?_ _ | refine Ext.drew ?_ | refine Ext.setRow ?_ (by first | (dsimp only; omega) | exact LeS.le | exact LeS.add _ | (simp; done) | (simp; omega)) _ | refine Ext.setCell ?_ (by first | (dsimp only; omega) | exact LeS.le | exact LeS.add _ | (simp; done) | (simp; omega)) _)))⟩
          case measure => simp [intOf]; omega
    · go_wp2_with fail
      go_ret2
      obtain rfl : k = l.length := by omega
      rw [List.take_length]
      exact ⟨rfl, z, rfl⟩
end Go.Proofs.Ytkboefmkfpnpjaa
