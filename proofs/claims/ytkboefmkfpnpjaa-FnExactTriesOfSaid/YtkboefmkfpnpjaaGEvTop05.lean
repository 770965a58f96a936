/- Walks: stores on the reference's side; versions that are read. Walks: FnExactReadVersion: which value an action reads. Walks: FnExactLastVersions: the store that remains. Plain laws: lists of versions: parts, repeats, what is read of a part. Plain laws: sums of blocks. -/
import Derived.Test.YtkboefmkfpnpjaaGEvTop02
import Derived.Test.YtkboefmkfpnpjaaGEvTop03
import Derived.Test.YtkboefmkfpnpjaaGEvTop04
import Derived.Test.YtkboefmkfpnpjaaGEvTop01
import Derived.Deep.AppendLies
set_option linter.unusedSimpArgs false
set_option linter.unusedVariables false
namespace Go.Proofs.Ytkboefmkfpnpjaa
open Go Go.RowKit Go.Proofs

set_option maxHeartbeats 2000000 in
theorem sStoreValid_any (l : List Ent) (v : Value) (w : World) (h : SL (RF Ent.enc) 2 w v l) :
    Calls Try.prog 26 #[v] w fun e w' => e = .returned (.bool (entsOk 1 l)) ∧ Up w w' := by
  obtain ⟨a, cap, rfl, hlen, hc⟩ := h.open
  clear h
  go_enter Try.func26, Try.ntmps26
  go_wp2_with fail
  go_loopw [3] (fun s3 wr => ∃ k : Nat, s3 = .int .i64 k ∧ k ≤ l.length ∧ upTo (entAt 1 l) k = true ∧ Up w wr) (fun s3 _ => l.length - (intOf s3).toNat)
  case atStart => exact ⟨0, rfl, Nat.zero_le _, rfl, .of (Ext.refl _)⟩
  case round =>
    obtain ⟨k, rfl, hk, hall, z, rfl⟩ := hrel
    by_cases hlt : k < l.length
    · obtain ⟨x, hxk⟩ := getElem?_some_of_lt hlt
      obtain ⟨b, off, rfl, hb, hcc⟩ := hc k x hxk
      have c0 : w.cell? ⟨b, off + k * 2, none⟩ = some (.int .i64 x.k) := hcc 0 _ rfl
      have c1 : w.cell? ⟨b, off + k * 2 + 1, none⟩ = some (.int .i64 x.v) := hcc 1 _ rfl
      have kk : (0 : Int) ≤ (k : Int) := by omega
      have kl : (k : Int) < l.length := by omega
      clear hcc
      by_cases h0 : 0 < k
      · obtain ⟨y, hyk⟩ := getElem?_some_of_lt (show k - 1 < l.length by omega)
        obtain ⟨b', off', hbo, _, hdd⟩ := hc (k - 1) y hyk
        simp only [Option.some.injEq, Addr.mk.injEq, and_true] at hbo
        obtain ⟨rfl, rfl⟩ := hbo
        have d0 : w.cell? ⟨b, off + (k - 1) * 2, none⟩ = some (.int .i64 y.k) := hdd 0 _ rfl
        have Hall := Lib.hid hall; have Hat := Lib.hid (entAt_next (least := 1) hxk h0 hyk)
        have k0 : decide ((0 : Int) < (k : Int)) = true := by simpa using h0
        have ks : IntKind.i64.wrap ((k : Int) - 1) = ((k - 1 : Nat) : Int) := by rw [IntWalk.i64_in _ (by omega)]; omega
        have ks0 : (0 : Int) ≤ (k : Int) - 1 := by omega
        have ks1 : (k : Int) - 1 < l.length := by omega
        have ks2 : ((k : Int) - 1).toNat = k - 1 := by omega
        clear hc hdd hxk hall hyk
        rcases guards2 (inR x.k 0 31) (inR x.v 1 1000000) with h1 | ⟨h1, h2⟩ | ⟨h1, h2⟩
        case inr.inr =>
          by_cases g : y.k < x.k
          · have g' : decide (x.k ≤ y.k) = false := by simpa using g
            go_wp2_with fail
            (refine wp_region_up (by kernel_rfl) (by kernel_rfl) ?_; (repeat (go_big_quiet_step ((go_at_call 66; exact Calls.up_same (l1In_any _ _ _ _))))); refine wpQuiet_nil ?_; intro _ hw'; obtain ⟨zq, hw''⟩ := hw'; subst hw'')
            go_wp2_with fail
            go_roundw
            case rel => exact ⟨k + 1, by go_num, by omega, upTo_succ Hall.out (by rw [Hat.out, h1, h2]; simpa using g), (.of (by repeat (first | exact Ext.refl _ | refine Ext.up ?_ _ | refine Ext.alloc ?_ _ | refine Ext.drew ?_ | refine Ext.setRow ?_ (by first | (dsimp only; omega) | exact LeS.le | exact LeS.add _ | (simp; done) | (simp; omega)) _ | refine Ext.setCell ?_ (by first | (dsimp only; omega) | exact LeS.le | exact LeS.add _ | (simp; done) | (simp; omega)) _)))⟩
            case measure => simp [intOf]; omega
          · have g' : decide (x.k ≤ y.k) = true := by simpa using g
            go_wp2_with fail
            (refine wp_region_up (by kernel_rfl) (by kernel_rfl) ?_; (repeat (go_big_quiet_step ((go_at_call 66; exact Calls.up_same (l1In_any _ _ _ _))))); refine wpQuiet_nil ?_; intro _ hw'; obtain ⟨zq, hw''⟩ := hw'; subst hw'')
            go_wp2_with fail
            go_ret
            refine ⟨?_, (.of (by repeat (first | exact Ext.refl _ | refine Ext.up ?_ _ | refine Ext.alloc ?_ _ | refine Ext.drew ?_ | refine Ext.setRow ?_ (by first | (dsimp only; omega) | exact LeS.le | exact LeS.add _ | (simp; done) | (simp; omega)) _ | refine Ext.setCell ?_ (by first | (dsimp only; omega) | exact LeS.le | exact LeS.add _ | (simp; done) | (simp; omega)) _)))⟩
            show Ending.returned (.bool false) = _
            rw [entsOk, upTo_false hlt (by rw [Hat.out, h1, h2]; simpa using g)]
        all_goals
          go_wp2_with fail
          (refine wp_region_up (by kernel_rfl) (by kernel_rfl) ?_; (repeat (go_big_quiet_step ((go_at_call 66; exact Calls.up_same (l1In_any _ _ _ _))))); refine wpQuiet_nil ?_; intro _ hw'; obtain ⟨zq, hw''⟩ := hw'; subst hw'')
          go_wp2_with fail
          go_ret
          refine ⟨?_, (.of (by repeat (first | exact Ext.refl _ | refine Ext.up ?_ _ | refine Ext.alloc ?_ _ | refine Ext.drew ?_ | refine Ext.setRow ?_ (by first | (dsimp only; omega) | exact LeS.le | exact LeS.add _ | (simp; done) | (simp; omega)) _ | refine Ext.setCell ?_ (by first | (dsimp only; omega) | exact LeS.le | exact LeS.add _ | (simp; done) | (simp; omega)) _)))⟩
          show Ending.returned (.bool false) = _
          rw [entsOk, upTo_false hlt (by rw [Hat.out]; simp [*])]
      · have Hall := Lib.hid hall; have Hat := Lib.hid (entAt_first (least := 1) hxk h0)
        have k0 : decide ((0 : Int) < (k : Int)) = false := by simpa using h0
        clear hc hxk hall
        rcases guards2 (inR x.k 0 31) (inR x.v 1 1000000) with h1 | ⟨h1, h2⟩ | ⟨h1, h2⟩
        case inr.inr =>
          go_wp2_with fail
          (refine wp_region_up (by kernel_rfl) (by kernel_rfl) ?_; (repeat (go_big_quiet_step ((go_at_call 66; exact Calls.up_same (l1In_any _ _ _ _))))); refine wpQuiet_nil ?_; intro _ hw'; obtain ⟨zq, hw''⟩ := hw'; subst hw'')
          go_wp2_with fail
          go_roundw
          case rel => exact ⟨k + 1, by go_num, by omega, upTo_succ Hall.out (by rw [Hat.out, h1, h2]; rfl), (.of (by repeat (first | exact Ext.refl _ | refine Ext.up ?_ _ | refine Ext.alloc ?_ _ | refine Ext.drew ?_ | refine Ext.setRow ?_ (by first | (dsimp only; omega) | exact LeS.le | exact LeS.add _ | (simp; done) | (simp; omega)) _ | refine Ext.setCell ?_ (by first | (dsimp only; omega) | exact LeS.le | exact LeS.add _ | (simp; done) | (simp; omega)) _)))⟩
          case measure => simp [intOf]; omega
        all_goals
          go_wp2_with fail
          (refine wp_region_up (by kernel_rfl) (by kernel_rfl) ?_; (repeat (go_big_quiet_step ((go_at_call 66; exact Calls.up_same (l1In_any _ _ _ _))))); refine wpQuiet_nil ?_; intro _ hw'; obtain ⟨zq, hw''⟩ := hw'; subst hw'')
          go_wp2_with fail
          go_ret
          refine ⟨?_, (.of (by repeat (first | exact Ext.refl _ | refine Ext.up ?_ _ | refine Ext.alloc ?_ _ | refine Ext.drew ?_ | refine Ext.setRow ?_ (by first | (dsimp only; omega) | exact LeS.le | exact LeS.add _ | (simp; done) | (simp; omega)) _ | refine Ext.setCell ?_ (by first | (dsimp only; omega) | exact LeS.le | exact LeS.add _ | (simp; done) | (simp; omega)) _)))⟩
          show Ending.returned (.bool false) = _
          rw [entsOk, upTo_false hlt (by rw [Hat.out]; simp [*])]
    · go_wp2_with fail
      go_ret
      obtain rfl : k = l.length := by omega
      refine ⟨?_, z, rfl⟩; show Ending.returned (.bool true) = _; rw [entsOk, hall]
set_option maxHeartbeats 1000000 in
theorem l2At_any (l : List Ent) (v : Value) (key : Int) (w : World) (h : SL (RF Ent.enc) 2 w v l) :
    Calls Try.prog 139 #[v, .int .i64 key] w fun e w' => e = .returned (.int .i64 (atK l key)) ∧ w = w' := by
  obtain ⟨a, cap, rfl, hlen, hc⟩ := h.open
  clear h
  go_enter Try.func139, Try.ntmps139
  go_wp2_with fail
  go_loop [5] (fun s5 => ∃ k : Nat, s5 = .int .i64 k ∧ k ≤ l.length ∧ noK l key k = true) (fun s5 => l.length - (intOf s5).toNat)
  case atStart => exact ⟨0, rfl, Nat.zero_le _, rfl⟩
  case round =>
    obtain ⟨k, rfl, hk, hall⟩ := hrel
    by_cases hlt : k < l.length
    · obtain ⟨x, hxk⟩ := getElem?_some_of_lt hlt
      obtain ⟨b, off, rfl, hb, hcc⟩ := hc k x hxk
      have c0 : w.cell? ⟨b, off + k * 2, none⟩ = some (.int .i64 x.k) := hcc 0 _ rfl
      have c1 : w.cell? ⟨b, off + k * 2 + 1, none⟩ = some (.int .i64 x.v) := hcc 1 _ rfl
      have Hx := Lib.hid hxk; have Hall := Lib.hid hall
      clear hcc hc hxk hall
      rcases ne_cases x.k key with ⟨h1, _⟩ | ⟨h1, _⟩
      · have h1' : (x.k == key) = false := by simpa using h1
        go_wp2_with fail
        go_round
        case rel => exact ⟨k + 1, by go_num, by omega, noK_next Hall.out Hx.out h1⟩
        case measure => simp [intOf]; omega
      · have h1' : (x.k == key) = true := by simpa using h1
        have H1 := Lib.hid h1; clear h1
        go_wp2_with fail
        go_ret
        exact ⟨by rw [atK_found Hall.out Hx.out H1.out]; rfl, rfl⟩
    · go_wp2_with fail
      go_ret
      obtain rfl : k = l.length := by omega
      exact ⟨by rw [atK_none hall]; rfl, rfl⟩
set_option maxHeartbeats 1000000 in
theorem l9Read_any (s : List Ent) (l : List Ver) (u v : Value) (key by_ : Int) (w : World) (hs : SL (RF Ent.enc) 2 w u s) (h : SL (RF Ver.enc) 3 w v l) :
    Calls Try.prog 151 #[u, v, .int .i64 key, .int .i64 by_] w fun e w' => e = .returned (.tuple #[.int .i64 (readV (atK s key) l key by_).1, .int .i64 (readV (atK s key) l key by_).2]) ∧ w = w' := by
  obtain ⟨a, cap, rfl, hlen, hc⟩ := h.open
  have Hs := Lib.hid hs
  clear h hs
  go_enter Try.func151, Try.ntmps151
  go_wp2_with (go_at_call 139; refine (l2At_any s _ _ _ Hs.out).mono ?_; rintro e w' ⟨rfl, rfl⟩)
  go_loop [10, 11, 12] (fun s10 s11 s12 => ∃ k : Nat, s12 = .int .i64 k ∧ s10 = .int .i64 (readV (atK s key) (l.take k) key by_).1 ∧ s11 = .int .i64 (readV (atK s key) (l.take k) key by_).2 ∧ k ≤ l.length) (fun _ _ s12 => l.length - (intOf s12).toNat)
  case atStart => exact ⟨0, rfl, rfl, rfl, Nat.zero_le _⟩
  case round =>
    obtain ⟨k, rfl, rfl, rfl, hk⟩ := hrel
    by_cases hlt : k < l.length
    · obtain ⟨x, hxk⟩ := getElem?_some_of_lt hlt
      obtain ⟨b, off, rfl, hb, hcc⟩ := hc k x hxk
      have c0 : w.cell? ⟨b, off + k * 3, none⟩ = some (.int .i64 x.k) := hcc 0 _ rfl
      have c1 : w.cell? ⟨b, off + k * 3 + 1, none⟩ = some (.int .i64 x.b) := hcc 1 _ rfl
      have c2 : w.cell? ⟨b, off + k * 3 + 2, none⟩ = some (.int .i64 x.v) := hcc 2 _ rfl
      have Hr := Lib.hid (readV_snoc (atK s key) key by_ hxk)
      clear hcc hc hxk
      rcases ne_cases x.k key with ⟨h1, _⟩ | ⟨h1, _⟩
      · have h1' : (x.k == key) = false := by simpa using h1
        have hst := rdStep_no1 (by_ := by_) (p := readV (atK s key) (l.take k) key by_) h1
        have Hst := Lib.hid hst; clear hst
        go_wp2_with fail
        go_round
        case rel => exact ⟨k + 1, by go_num, by rw [Hr.out, Hst.out], by rw [Hr.out, Hst.out], by omega⟩
        case measure => simp [intOf]; omega
      · have h1' : (x.k == key) = true := by simpa using h1
        by_cases h2 : x.b < by_
        · have h2' : decide (x.b < by_) = true := by simpa using h2
          have hst := rdStep_yes (p := readV (atK s key) (l.take k) key by_) h1 h2
          have Hst := Lib.hid hst; clear hst h1
          go_wp2_with fail
          go_round
          case rel => exact ⟨k + 1, by go_num, by rw [Hr.out, Hst.out], by rw [Hr.out, Hst.out], by omega⟩
          case measure => simp [intOf]; omega
        · have h2' : decide (x.b < by_) = false := by simpa using h2
          have hst := rdStep_no2 (key := key) (p := readV (atK s key) (l.take k) key by_) h2
          have Hst := Lib.hid hst; clear hst h1
          go_wp2_with fail
          go_round
          case rel => exact ⟨k + 1, by go_num, by rw [Hr.out, Hst.out], by rw [Hr.out, Hst.out], by omega⟩
          case measure => simp [intOf]; omega
    · go_wp2_with fail
      go_ret2
      obtain rfl : k = l.length := by omega
      rw [List.take_length]
      exact ⟨rfl, rfl⟩
set_option maxHeartbeats 1000000 in
theorem read_any (bs : List Int) (base : Int) (l : List Ver) (v : Value) (key by_ : Int) (w : World) (hb : bs[key.toNat]? = some base) (k0 : 0 ≤ key) (k1 : key ≤ 31) (h : SL (RF Ver.enc) 3 w v l) :
    Calls Try.prog 92 #[.agg (vA bs), v, .int .i64 key, .int .i64 by_] w fun e w' => e = .returned (.tuple #[.int .i64 (readV base l key by_).1, .int .i64 (readV base l key by_).2]) ∧ Up w w' := by
  obtain ⟨a, cap, rfl, hlen, hc⟩ := h.open
  have hcell := (Row.new 99 w bs).cell hb
  clear h hb
  go_enter Try.func92, Try.ntmps92
  go_wp2_with fail
  go_loopw [10, 11, 13, 19] (fun s10 s11 _ s19 wr => ∃ k : Nat, s19 = .int .i64 k ∧ s10 = .int .i64 (readV base (l.take k) key by_).1 ∧ s11 = .int .i64 (readV base (l.take k) key by_).2 ∧ k ≤ l.length ∧ Up w wr) (fun _ _ _ s19 _ => l.length - (intOf s19).toNat)
  case atStart => exact ⟨0, rfl, rfl, rfl, Nat.zero_le _, (.of (by repeat (first | exact Ext.refl _ | refine Ext.up ?_ _ | refine Ext.alloc ?_ _ | refine Ext.drew ?_ | refine Ext.setRow ?_ (by first | (dsimp only; omega) | exact LeS.le | exact LeS.add _ | (simp; done) | (simp; omega)) _ | refine Ext.setCell ?_ (by first | (dsimp only; omega) | exact LeS.le | exact LeS.add _ | (simp; done) | (simp; omega)) _)))⟩
  case round =>
    obtain ⟨k, rfl, rfl, rfl, hk, z, rfl⟩ := hrel
    by_cases hlt : k < l.length
    · obtain ⟨x, hxk⟩ := getElem?_some_of_lt hlt
      obtain ⟨b, off, rfl, hb, hcc⟩ := hc k x hxk
      have c0 : w.cell? ⟨b, off + k * 3, none⟩ = some (.int .i64 x.k) := hcc 0 _ rfl
      have c1 : w.cell? ⟨b, off + k * 3 + 1, none⟩ = some (.int .i64 x.b) := hcc 1 _ rfl
      have c2 : w.cell? ⟨b, off + k * 3 + 2, none⟩ = some (.int .i64 x.v) := hcc 2 _ rfl
      have Hr := Lib.hid (readV_snoc base key by_ hxk)
      clear hcc hc hxk hcell
      rcases ne_cases x.k key with ⟨h1, _⟩ | ⟨h1, _⟩
      · have h1' : (x.k == key) = false := by simpa using h1
        have hst := rdStep_no1 (by_ := by_) (p := readV base (l.take k) key by_) h1
        have Hst := Lib.hid hst; clear hst
        go_wp2_with fail
        go_roundw
        case rel => exact ⟨k + 1, by go_num, by rw [Hr.out, Hst.out], by rw [Hr.out, Hst.out], by omega, (.of (by repeat (first | exact Ext.refl _ | refine Ext.up ?_ _ | refine Ext.alloc ?_ _ | refine Ext.drew ?_ | refine Ext.setRow ?_ (by first | (dsimp only; omega) | exact LeS.le | exact LeS.add _ | (simp; done) | (simp; omega)) _ | refine Ext.setCell ?_ (by first | (dsimp only; omega) | exact LeS.le | exact LeS.add _ | (simp; done) | (simp; omega)) _)))⟩
        case measure => simp [intOf]; omega
      · have h1' : (x.k == key) = true := by simpa using h1
        by_cases h2 : x.b < by_
        · have h2' : decide (x.b < by_) = true := by simpa using h2
          have hst := rdStep_yes (p := readV base (l.take k) key by_) h1 h2
          have Hst := Lib.hid hst; clear hst h1
          go_wp2_with fail
          (refine wp_region_up (by kernel_rfl) (by kernel_rfl) ?_; (repeat (go_big_quiet_step (fail))); refine wpQuiet_nil ?_; intro _ hw'; obtain ⟨zq, hw''⟩ := hw'; subst hw'')
          go_wp2_with fail
          go_roundw
          case rel => exact ⟨k + 1, by go_num, by rw [Hr.out, Hst.out], by rw [Hr.out, Hst.out], by omega, (.of (by repeat (first | exact Ext.refl _ | refine Ext.up ?_ _ | refine Ext.alloc ?_ _ | refine Ext.drew ?_ | refine Ext.setRow ?_ (by first | (dsimp only; omega) | exact LeS.le | exact LeS.add _ | (simp; done) | (simp; omega)) _ | refine Ext.setCell ?_ (by first | (dsimp only; omega) | exact LeS.le | exact LeS.add _ | (simp; done) | (simp; omega)) _)))⟩
          case measure => simp [intOf]; omega
        · have h2' : decide (x.b < by_) = false := by simpa using h2
          have hst := rdStep_no2 (key := key) (p := readV base (l.take k) key by_) h2
          have Hst := Lib.hid hst; clear hst h1
          go_wp2_with fail
          go_roundw
          case rel => exact ⟨k + 1, by go_num, by rw [Hr.out, Hst.out], by rw [Hr.out, Hst.out], by omega, (.of (by repeat (first | exact Ext.refl _ | refine Ext.up ?_ _ | refine Ext.alloc ?_ _ | refine Ext.drew ?_ | refine Ext.setRow ?_ (by first | (dsimp only; omega) | exact LeS.le | exact LeS.add _ | (simp; done) | (simp; omega)) _ | refine Ext.setCell ?_ (by first | (dsimp only; omega) | exact LeS.le | exact LeS.add _ | (simp; done) | (simp; omega)) _)))⟩
          case measure => simp [intOf]; omega
    · go_wp2_with fail
      go_ret2
      obtain rfl : k = l.length := by omega
      rw [List.take_length]
      exact ⟨rfl, z, rfl⟩
end Go.Proofs.Ytkboefmkfpnpjaa
namespace Go.Proofs.Ytkboefmkfpnpjaa
open Go Go.RowKit Go.Proofs

def rdOk (s : List Ent) (l : List Ver) (key by_ : Int) : Bool := entsOk 1 s && (versOk l && (inR key 0 31 && inR by_ 0 10))
def rdV (s : List Ent) (l : List Ver) (key by_ : Int) : Int × Int := if rdOk s l key by_ = true then readV (atK s key) l key by_ else (-1, -1)
theorem rdV_no {s : List Ent} {l : List Ver} {key by_ : Int} (h : rdOk s l key by_ = false) : rdV s l key by_ = (-1, -1) := by unfold rdV; rw [h]; rfl
theorem rdV_yes {s : List Ent} {l : List Ver} {key by_ : Int} (h : rdOk s l key by_ = true) : rdV s l key by_ = readV (atK s key) l key by_ := by unfold rdV; rw [h]; rfl
set_option maxHeartbeats 1000000 in
theorem iReadVersion_any (s : List Ent) (l : List Ver) (u v : Value) (key by_ : Int) (w : World) (hs : SL (RF Ent.enc) 2 w u s) (h : SL (RF Ver.enc) 3 w v l) :
    Calls Try.prog 38 #[u, v, .int .i64 key, .int .i64 by_] w fun e w' => e = .returned (.tuple #[.int .i64 (rdV s l key by_).1, .int .i64 (rdV s l key by_).2]) ∧ Up w w' := by
  have Hs := Lib.hid hs; have H := Lib.hid h
  clear h hs
  rcases guards4 (entsOk 1 s) (versOk l) (inR key 0 31) (inR by_ 0 10) with h1 | ⟨h1, h2⟩ | ⟨h1, h2, h3⟩ | ⟨h1, h2, h3, h4⟩ | ⟨h1, h2, h3, h4⟩
  case inr.inr.inr.inr =>
    rw [rdV_yes (by simp [rdOk, *])]
    obtain ⟨k0, k1⟩ := inR_iff.1 h3
    have hg : (valsOf s)[key.toNat]? = some (atK s key) := by have := valsOf_get h1 (n := key.toNat) (by omega); rwa [show ((key.toNat : Nat) : Int) = key from by omega] at this
    have Hg := Lib.hid hg; clear hg
    have H1 := Lib.hid h1
    go_enter Try.func38, Try.ntmps38
    go_wp2_with (first | (go_at_call 91; refine (isKey_any _ _).mono ?_; rintro e w' ⟨rfl, rfl⟩) | (go_at_call 88; refine (in_any _ _ _ _).mono ?_; rintro e w' ⟨rfl, rfl⟩) | (go_at_call 68; refine (iStoreValid_any s _ _ Hs.out).mono ?_; rintro e w' ⟨rfl, z1, rfl⟩) | (go_at_call 43; refine (iVersionsValid_any l _ _ (H.out.up (by repeat (first | exact Ext.refl _ | refine Ext.up ?_ _ | refine Ext.alloc ?_ _ | refine Ext.drew ?_ | refine Ext.setRow ?_ (by first | (dsimp only; omega) | exact LeS.le | exact LeS.add _ | (simp; done) | (simp; omega)) _ | refine Ext.setCell ?_ (by first | (dsimp only; omega) | exact LeS.le | exact LeS.add _ | (simp; done) | (simp; omega)) _)))).mono ?_; rintro e w' ⟨rfl, z2, rfl⟩) | (go_at_call 71; refine (valuesOf_any 1 s _ _ (Hs.out.up (by repeat (first | exact Ext.refl _ | refine Ext.up ?_ _ | refine Ext.alloc ?_ _ | refine Ext.drew ?_ | refine Ext.setRow ?_ (by first | (dsimp only; omega) | exact LeS.le | exact LeS.add _ | (simp; done) | (simp; omega)) _ | refine Ext.setCell ?_ (by first | (dsimp only; omega) | exact LeS.le | exact LeS.add _ | (simp; done) | (simp; omega)) _))) H1.out).mono ?_; rintro e w' ⟨rfl, z3, rfl⟩) | (go_at_call 92; refine (read_any _ _ l _ _ _ _ Hg.out k0 k1 (H.out.up (by repeat (first | exact Ext.refl _ | refine Ext.up ?_ _ | refine Ext.alloc ?_ _ | refine Ext.drew ?_ | refine Ext.setRow ?_ (by first | (dsimp only; omega) | exact LeS.le | exact LeS.add _ | (simp; done) | (simp; omega)) _ | refine Ext.setCell ?_ (by first | (dsimp only; omega) | exact LeS.le | exact LeS.add _ | (simp; done) | (simp; omega)) _)))).mono ?_; rintro e w' ⟨rfl, z4, rfl⟩))
    go_ret2
    exact ⟨rfl, (.of (by repeat (first | exact Ext.refl _ | refine Ext.up ?_ _ | refine Ext.alloc ?_ _ | refine Ext.drew ?_ | refine Ext.setRow ?_ (by first | (dsimp only; omega) | exact LeS.le | exact LeS.add _ | (simp; done) | (simp; omega)) _ | refine Ext.setCell ?_ (by first | (dsimp only; omega) | exact LeS.le | exact LeS.add _ | (simp; done) | (simp; omega)) _)))⟩
  all_goals
    rw [rdV_no (by simp [rdOk, *])]
    go_enter Try.func38, Try.ntmps38
    go_wp2_with (first | (go_at_call 91; refine (isKey_any _ _).mono ?_; rintro e w' ⟨rfl, rfl⟩) | (go_at_call 88; refine (in_any _ _ _ _).mono ?_; rintro e w' ⟨rfl, rfl⟩) | (go_at_call 68; refine (iStoreValid_any s _ _ Hs.out).mono ?_; rintro e w' ⟨rfl, z1, rfl⟩) | (go_at_call 43; refine (iVersionsValid_any l _ _ (H.out.up (by repeat (first | exact Ext.refl _ | refine Ext.up ?_ _ | refine Ext.alloc ?_ _ | refine Ext.drew ?_ | refine Ext.setRow ?_ (by first | (dsimp only; omega) | exact LeS.le | exact LeS.add _ | (simp; done) | (simp; omega)) _ | refine Ext.setCell ?_ (by first | (dsimp only; omega) | exact LeS.le | exact LeS.add _ | (simp; done) | (simp; omega)) _)))).mono ?_; rintro e w' ⟨rfl, z2, rfl⟩))
    go_ret2
    exact ⟨rfl, (.of (by repeat (first | exact Ext.refl _ | refine Ext.up ?_ _ | refine Ext.alloc ?_ _ | refine Ext.drew ?_ | refine Ext.setRow ?_ (by first | (dsimp only; omega) | exact LeS.le | exact LeS.add _ | (simp; done) | (simp; omega)) _ | refine Ext.setCell ?_ (by first | (dsimp only; omega) | exact LeS.le | exact LeS.add _ | (simp; done) | (simp; omega)) _)))⟩
end Go.Proofs.Ytkboefmkfpnpjaa
namespace Go.Proofs.Ytkboefmkfpnpjaa
open Go Go.RowKit Go.Proofs

def lastR (s : List Ent) (l : List Ver) : List Ent := if (entsOk 1 s && versOk l) = true then storeOf (lastV s l) else []
theorem lastR_no {s : List Ent} {l : List Ver} (h : (entsOk 1 s && versOk l) = false) : lastR s l = [] := by unfold lastR; rw [h]; rfl
theorem lastR_yes {s : List Ent} {l : List Ver} (h : (entsOk 1 s && versOk l) = true) : lastR s l = storeOf (lastV s l) := by unfold lastR; rw [h]; rfl
theorem lastR_le (s : List Ent) (l : List Ver) : (lastR s l).length ≤ 32 := by unfold lastR; split; exact storeOf_le _; simp
set_option maxRecDepth 100000 in
set_option maxHeartbeats 2000000 in
theorem iLastVersions_any (s : List Ent) (l : List Ver) (u v : Value) (w : World) (hs : SL (RF Ent.enc) 2 w u s) (h : SL (RF Ver.enc) 3 w v l) :
    Calls Try.prog 39 #[u, v] w fun e w' => ∃ v', e = .returned v' ∧ Up w w' ∧ Own Ent.enc 31 2 w.heap.size w' v' (lastR s l) := by
  have Hs := Lib.hid hs; have H := Lib.hid h
  clear h hs
  rcases guards2 (entsOk 1 s) (versOk l) with h1 | ⟨h1, h2⟩ | ⟨h1, h2⟩
  case inr.inr =>
    rw [lastR_yes (by simp [*])]
    have H1 := Lib.hid h1
    have tok1 : True := trivial
    have tok2 : True := trivial
    go_enter Try.func39, Try.ntmps39
    go_wp2_with (first | (go_at_call 68; refine (iStoreValid_any s _ _ (Hs.out.up (by repeat (first | exact Ext.refl _ | refine Ext.up ?_ _ | refine Ext.alloc ?_ _ | refine Ext.drew ?_ | refine Ext.setRow ?_ (by first | (dsimp only; omega) | exact LeS.le | exact LeS.add _ | (simp; done) | (simp; omega)) _ | refine Ext.setCell ?_ (by first | (dsimp only; omega) | exact LeS.le | exact LeS.add _ | (simp; done) | (simp; omega)) _)))).mono ?_; rintro e w' ⟨rfl, z1, rfl⟩) | (go_at_call 43; refine (iVersionsValid_any l _ _ (H.out.up (by repeat (first | exact Ext.refl _ | refine Ext.up ?_ _ | refine Ext.alloc ?_ _ | refine Ext.drew ?_ | refine Ext.setRow ?_ (by first | (dsimp only; omega) | exact LeS.le | exact LeS.add _ | (simp; done) | (simp; omega)) _ | refine Ext.setCell ?_ (by first | (dsimp only; omega) | exact LeS.le | exact LeS.add _ | (simp; done) | (simp; omega)) _)))).mono ?_; rintro e w' ⟨rfl, z2, rfl⟩) | (go_at_call 71; refine (valuesOf_any 1 s _ _ (Hs.out.up (by repeat (first | exact Ext.refl _ | refine Ext.up ?_ _ | refine Ext.alloc ?_ _ | refine Ext.drew ?_ | refine Ext.setRow ?_ (by first | (dsimp only; omega) | exact LeS.le | exact LeS.add _ | (simp; done) | (simp; omega)) _ | refine Ext.setCell ?_ (by first | (dsimp only; omega) | exact LeS.le | exact LeS.add _ | (simp; done) | (simp; omega)) _))) H1.out).mono ?_; rintro e w' ⟨rfl, z3, rfl⟩) | (have _t := tok1; refine wpList_store_new rfl _ _ _ rfl rfl rfl rfl (by rw [valsOf_length]; exact Try.sVals) (by rw [valsOf_length]; rfl) ?_; intro z4 r4; clear _t tok1) | (have _t := tok2; refine wpList_store_new rfl _ _ _ rfl rfl rfl rfl (by rw [valsOf_length]; exact Try.sVals) (by rw [valsOf_length]; rfl) ?_; intro z5 r5; clear _t tok2) | (refine wpList_load_row rfl _ _ rfl _ rfl _ _ _ _ r4.eq Try.underlying99 rfl (by rw [vA_size, valsOf_length]; exact Try.sVals) ?_))
    have Hne := Lib.hid (show z3.val.heap.size ≠ z4.val.heap.size by have := r4.lt; omega)
    have R4 := Lib.hid (r4.up z5.ext); have R5 := Lib.hid r5
    clear r4 r5
    go_loopw [7, 19] (fun _ s19 wr => ∃ k : Nat, s19 = .int .i64 k ∧ k ≤ 32 ∧ Up w wr ∧ Row 99 wr z3.val.heap.size (valsOf s) ∧ Row 99 wr z4.val.heap.size (mixV (lastV s l) (valsOf s) k)) (fun _ s19 _ => 32 - (intOf s19).toNat)
    case atStart => exact ⟨0, rfl, Nat.zero_le _, (.of (by repeat (first | exact Ext.refl _ | refine Ext.up ?_ _ | refine Ext.alloc ?_ _ | refine Ext.drew ?_ | refine Ext.setRow ?_ (by first | (dsimp only; omega) | exact LeS.le | exact LeS.add _ | (simp; done) | (simp; omega)) _ | refine Ext.setCell ?_ (by first | (dsimp only; omega) | exact LeS.le | exact LeS.add _ | (simp; done) | (simp; omega)) _))), R4.out, by rw [mixV_zero]; exact R5.out⟩
    case round =>
      obtain ⟨k, rfl, hk, ⟨z, rfl⟩, r6, r7⟩ := hrel
      by_cases hlt : k < 32
      · have Hx := Lib.hid (lastV_get s l hlt)
        have Hv := Lib.hid (valsOf_get H1.out hlt)
        have hl : (lastV s l).length = (valsOf s).length := by rw [lastV_length, valsOf_length]
        obtain ⟨y, hy⟩ := getElem?_some_of_lt (l := mixV (lastV s l) (valsOf s) k) (k := k) (by rw [mixV_length hl (by rw [valsOf_length]; omega), valsOf_length]; exact hlt)
        have Hl := Lib.hid hl
        have d0 := r7.cell hy
        have f0 := r7.frozen k
        have hL := r7.lts
        have R6 := Lib.hid r6; have R7 := Lib.hid r7
        clear r6 r7 hy hl
        go_wp2_with (first | (refine wpList_load_row rfl _ _ rfl _ rfl _ _ _ _ R6.out.eq Try.underlying99 rfl (by rw [vA_size, valsOf_length]; exact Try.sVals) ?_) | (go_at_call 92; refine (read_any _ _ l _ _ _ _ Hv.out (by omega) (by omega) (H.out.up (by repeat (first | exact Ext.refl _ | refine Ext.up ?_ _ | refine Ext.alloc ?_ _ | refine Ext.drew ?_ | refine Ext.setRow ?_ (by first | (dsimp only; omega) | exact LeS.le | exact LeS.add _ | (simp; done) | (simp; omega)) _ | refine Ext.setCell ?_ (by first | (dsimp only; omega) | exact LeS.le | exact LeS.add _ | (simp; done) | (simp; omega)) _)))).mono ?_; rintro e w' ⟨rfl, z6, rfl⟩))
        go_roundw
        case rel => exact ⟨k + 1, by go_num, by omega, (.of (by repeat (first | exact Ext.refl _ | refine Ext.up ?_ _ | refine Ext.alloc ?_ _ | refine Ext.drew ?_ | refine Ext.setRow ?_ (by first | (dsimp only; omega) | exact LeS.le | exact LeS.add _ | (simp; done) | (simp; omega)) _ | refine Ext.setCell ?_ (by first | (dsimp only; omega) | exact LeS.le | exact LeS.add _ | (simp; done) | (simp; omega)) _))), (R6.out.up ((Ext.refl _).up z6)).other _ Hne.out, by rw [← mixV_next Hl.out Hx.out]; exact (R7.out.up ((Ext.refl _).up z6)).set _ _⟩
        case measure => simp [intOf]; omega
      · obtain rfl : k = 32 := by omega
        have hl : (lastV s l).length = (valsOf s).length := by rw [lastV_length, valsOf_length]
        have e := mixV_all hl
        rw [valsOf_length] at e
        rw [e] at r7
        have R7 := Lib.hid r7
        clear r6 r7 hl e
        go_wp2_with (first | (refine wpList_load_row rfl _ _ rfl _ rfl _ _ _ _ R7.out.eq Try.underlying99 rfl (by rw [vA_size, lastV_length]; exact Try.sVals) ?_) | (go_at_call 72; refine (store_any _ _ (lastV_length s l)).mono ?_; rintro e w' ⟨v', rfl, ⟨z6, rfl⟩, ho⟩; have HO := Lib.hid ho; clear ho))
        go_ret
        exact ⟨_, rfl, (.of (by repeat (first | exact Ext.refl _ | refine Ext.up ?_ _ | refine Ext.alloc ?_ _ | refine Ext.drew ?_ | refine Ext.setRow ?_ (by first | (dsimp only; omega) | exact LeS.le | exact LeS.add _ | (simp; done) | (simp; omega)) _ | refine Ext.setCell ?_ (by first | (dsimp only; omega) | exact LeS.le | exact LeS.add _ | (simp; done) | (simp; omega)) _))), HO.out.lo LeS.le⟩
  all_goals
    rw [lastR_no (by simp [*])]
    go_enter Try.func39, Try.ntmps39
    go_wp2_with (first | (go_at_call 68; refine (iStoreValid_any s _ _ (Hs.out.up (by repeat (first | exact Ext.refl _ | refine Ext.up ?_ _ | refine Ext.alloc ?_ _ | refine Ext.drew ?_ | refine Ext.setRow ?_ (by first | (dsimp only; omega) | exact LeS.le | exact LeS.add _ | (simp; done) | (simp; omega)) _ | refine Ext.setCell ?_ (by first | (dsimp only; omega) | exact LeS.le | exact LeS.add _ | (simp; done) | (simp; omega)) _)))).mono ?_; rintro e w' ⟨rfl, z1, rfl⟩) | (go_at_call 43; refine (iVersionsValid_any l _ _ (H.out.up (by repeat (first | exact Ext.refl _ | refine Ext.up ?_ _ | refine Ext.alloc ?_ _ | refine Ext.drew ?_ | refine Ext.setRow ?_ (by first | (dsimp only; omega) | exact LeS.le | exact LeS.add _ | (simp; done) | (simp; omega)) _ | refine Ext.setCell ?_ (by first | (dsimp only; omega) | exact LeS.le | exact LeS.add _ | (simp; done) | (simp; omega)) _)))).mono ?_; rintro e w' ⟨rfl, z2, rfl⟩))
    go_ret
    exact ⟨_, rfl, (.of (by repeat (first | exact Ext.refl _ | refine Ext.up ?_ _ | refine Ext.alloc ?_ _ | refine Ext.drew ?_ | refine Ext.setRow ?_ (by first | (dsimp only; omega) | exact LeS.le | exact LeS.add _ | (simp; done) | (simp; omega)) _ | refine Ext.setCell ?_ (by first | (dsimp only; omega) | exact LeS.le | exact LeS.add _ | (simp; done) | (simp; omega)) _))), Own.nil _ _ _ _ _⟩
end Go.Proofs.Ytkboefmkfpnpjaa
namespace Go.Proofs.Ytkboefmkfpnpjaa
open Go Go.RowKit

theorem versOk_of {l : List Ver} (hs : l.Pairwise fun a b => verLt a b = true) (hin : ∀ x ∈ l, verIn x = true) : versOk l = true := by
  refine upTo_iff.2 fun i hi => ?_
  obtain ⟨x, hx⟩ := getElem?_some_of_lt hi
  have hm := hin x (List.mem_of_getElem? hx)
  by_cases h0 : 0 < i
  · obtain ⟨y, hy⟩ := getElem?_some_of_lt (show i - 1 < l.length by omega)
    rw [verAt_next hx h0 hy, Bool.and_eq_true]
    refine ⟨hm, ?_⟩
    rw [List.pairwise_iff_getElem] at hs
    obtain ⟨h1, h2⟩ := List.getElem?_eq_some_iff.1 hx
    obtain ⟨h3, h4⟩ := List.getElem?_eq_some_iff.1 hy
    have := hs (i - 1) i h3 h1 (by omega)
    rw [h2, h4] at this
    exact this
  · rw [verAt_first hx h0]; exact hm
theorem versOk_iff {l : List Ver} : versOk l = true ↔ l.Pairwise (fun a b => verLt a b = true) ∧ ∀ x ∈ l, verIn x = true :=
  ⟨fun h => ⟨vers_sorted h, fun _ hx => versOk_mem h hx⟩, fun h => versOk_of h.1 h.2⟩
theorem versOk_sub {l m : List Ver} (h : versOk l = true) (hs : m.Sublist l) : versOk m = true :=
  versOk_of ((vers_sorted h).sublist hs) fun _ hx => versOk_mem h (hs.subset hx)
theorem versOk_drop {l : List Ver} (h : versOk l = true) (n : Nat) : versOk (l.drop n) = true := versOk_sub h (List.drop_sublist _ _)
theorem verLt_irr (x : Ver) : verLt x x = false := by
  rcases h : verLt x x with _ | _
  · rfl
  · rw [verLt_iff] at h; omega
theorem versOk_twice {l : List Ver} {x : Ver} (hx : x ∈ l) : versOk (l ++ [x]) = false := by
  rcases h : versOk (l ++ [x]) with _ | _
  · rfl
  · have := vers_sorted h
    rw [List.pairwise_append] at this
    have := this.2.2 x hx x (by simp)
    rw [verLt_irr] at this; cases this
theorem versOk_dropV {l : List Ver} (h : versOk l = true) (b : Int) : versOk (dropV l b) = true := versOk_sub h List.filter_sublist
theorem dropV_twice (l : List Ver) (b : Int) : dropV (dropV l b) b = dropV l b := by
  unfold dropV
  rw [List.filter_filter]; simp
theorem putV_ok {l : List Ver} {by_ : Int} {u : List Ent} (h : putOk l by_ u = true) : versOk (putV l by_ u) = true := by
  simp only [putOk, Bool.and_eq_true, inR_iff] at h
  obtain ⟨h1, ⟨b0, b1⟩, hu⟩ := h
  refine versOk_of (putV_sorted (vers_sorted h1) (asc_of hu)) fun x hx => ?_
  have : x ∈ dropV l by_ ++ u.map (mkV by_) := (putTo_perm by_ u _).mem_iff.1 hx
  rcases List.mem_append.1 this with h | h
  · exact versOk_mem h1 (dropV_ne h).1
  · obtain ⟨e, he, rfl⟩ := List.mem_map.1 h
    have := entsOk_mem hu he
    simp only [verIn, mkV, Bool.and_eq_true, inR_iff]
    omega
/-! ### What is read -/
def earlyV (l : List Ver) (by_ : Int) : List Ver := l.filter fun x => decide (x.b < by_)
theorem earlyV_snoc_in {l : List Ver} {k : Nat} {x : Ver} {b : Int} (h : l[k]? = some x) (hb : x.b < b) : earlyV (l.take (k + 1)) b = earlyV (l.take k) b ++ [x] := by
  rw [List.take_add_one, h]; simp [earlyV, hb]
theorem earlyV_snoc_out {l : List Ver} {k : Nat} {x : Ver} {b : Int} (h : l[k]? = some x) (hb : ¬ x.b < b) : earlyV (l.take (k + 1)) b = earlyV (l.take k) b := by
  rw [List.take_add_one, h]; simp [earlyV, hb]
theorem earlyV_le (l : List Ver) (b : Int) : (earlyV l b).length ≤ l.length := List.length_filter_le _ _
theorem earlyV_ok {l : List Ver} (h : versOk l = true) (b : Int) : versOk (earlyV l b) = true := versOk_sub h List.filter_sublist
theorem readV_early (base : Int) (l : List Ver) (key b : Int) : readV base (earlyV l b) key b = readV base l key b := by
  have key' : ∀ (l : List Ver) (p : Int × Int), (earlyV l b).foldl (rdStep key b) p = l.foldl (rdStep key b) p := by
    intro l
    induction l with
    | nil => intro p; rfl
    | cons x l ih =>
      intro p
      by_cases hx : x.b < b
      · have : earlyV (x :: l) b = x :: earlyV l b := by simp [earlyV, hx]
        rw [this, List.foldl_cons, List.foldl_cons, ih]
      · have : earlyV (x :: l) b = earlyV l b := by simp [earlyV, hx]
        rw [this, List.foldl_cons, ih, rdStep_no2 hx]
  exact key' l (base, -1)
theorem readV_inv {base : Int} {l : List Ver} {key b : Int} (hl : versOk l = true) (hb : 0 ≤ b) (h0 : 0 ≤ base ∧ base ≤ 1000000) :
    (0 ≤ (readV base l key b).1 ∧ (readV base l key b).1 ≤ 1000000) ∧ ((readV base l key b).2 = -1 ∧ (readV base l key b).1 = base ∨ 0 ≤ (readV base l key b).2) ∧ (readV base l key b).2 < b ∧ -1 ≤ (readV base l key b).2 := by
  have key' : ∀ (l : List Ver) (p : Int × Int), (∀ x ∈ l, verIn x = true) → ((0 ≤ p.1 ∧ p.1 ≤ 1000000) ∧ (p.2 = -1 ∧ p.1 = base ∨ 0 ≤ p.2) ∧ p.2 < b ∧ -1 ≤ p.2) →
      (0 ≤ (l.foldl (rdStep key b) p).1 ∧ (l.foldl (rdStep key b) p).1 ≤ 1000000) ∧ ((l.foldl (rdStep key b) p).2 = -1 ∧ (l.foldl (rdStep key b) p).1 = base ∨ 0 ≤ (l.foldl (rdStep key b) p).2) ∧ (l.foldl (rdStep key b) p).2 < b ∧ -1 ≤ (l.foldl (rdStep key b) p).2 := by
    intro l
    induction l with
    | nil => intro p _ h; exact h
    | cons x l ih =>
      intro p hin h
      rw [List.foldl_cons]
      refine ih _ (fun y hy => hin y (by simp [hy])) ?_
      have hx := hin x (by simp)
      simp only [verIn, Bool.and_eq_true, inR_iff] at hx
      unfold rdStep
      split
      · dsimp only; omega
      · exact h
  exact key' l (base, -1) (fun _ hx => versOk_mem hl hx) ⟨h0, .inl ⟨rfl, rfl⟩, by show (-1 : Int) < b; omega, by show (-1 : Int) ≤ -1; decide⟩
theorem rdV_neg {s : List Ent} {l : List Ver} {key by_ : Int} (h : (rdV s l key by_).1 < 0) : rdOk s l key by_ = false := by
  rcases hr : rdOk s l key by_ with _ | _
  · rfl
  · exfalso
    rw [rdV_yes hr] at h
    simp only [rdOk, Bool.and_eq_true, inR_iff] at hr
    have := (readV_inv (base := atK s key) (key := key) (b := by_) hr.2.1 (by omega) (atK_in hr.1 (by omega) key)).1.1
    omega
theorem lastV_in {s : List Ent} {l : List Ver} (hs : entsOk 1 s = true) (hl : versOk l = true) : valsIn (lastV s l) := by
  refine ⟨lastV_length s l, fun x hx => ?_⟩
  obtain ⟨i, _, rfl⟩ := List.mem_map.1 hx
  exact (readV_inv hl (by omega) (atK_in hs (by omega) _)).1
theorem lastV_nil {s : List Ent} (hs : entsOk 1 s = true) : lastV s [] = valsOf s := by
  apply List.ext_getElem?
  intro i
  by_cases hi : i < 32
  · rw [lastV_get s [] hi, valsOf_get hs hi]; rfl
  · rw [List.getElem?_eq_none (by rw [lastV_length]; omega), List.getElem?_eq_none (by rw [valsOf_length]; omega)]
theorem lastR_nil {s : List Ent} (hs : entsOk 1 s = true) : lastR s [] = s := by
  rw [lastR_yes (by rw [hs]; rfl), lastV_nil hs, storeOf_valsOf hs]
theorem atK_lastR {s : List Ent} {l : List Ver} (hs : entsOk 1 s = true) (hl : versOk l = true) {n : Nat} (hn : n < 32) : atK (lastR s l) n = (rdV s l n 10).1 := by
  rw [lastR_yes (by rw [hs, hl]; rfl), atK_storeOf (lastV_in hs hl) hn, rdV_yes (by simp only [rdOk, hs, hl, Bool.true_and, Bool.and_eq_true, inR_iff]; omega), List.getD_eq_getElem?_getD, lastV_get s l hn]
  rfl
theorem lastR_ok {s : List Ent} {l : List Ver} (hs : entsOk 1 s = true) (hl : versOk l = true) : entsOk 1 (lastR s l) = true := by
  rw [lastR_yes (by rw [hs, hl]; rfl)]; exact storeOf_ok (lastV_in hs hl)
end Go.Proofs.Ytkboefmkfpnpjaa
namespace Go.Proofs.Ytkboefmkfpnpjaa
open Go Go.RowKit

theorem summed_iff {l : List Int} : summed l = true ↔ ∀ n ∈ l, 0 ≤ n ∧ n ≤ 2000000 := by simp [summed, inR_iff]
theorem summed_at {l : List Int} (h : summed l = true) {k : Nat} {n : Int} (hn : l[k]? = some n) : 0 ≤ n ∧ n ≤ 2000000 := summed_iff.1 h n (List.mem_of_getElem? hn)
theorem sumOf_yes {tag : Int} {l : List Int} (h0 : 0 ≤ tag) (h9 : tag ≤ 9) (h : summed l = true) : sumOf tag l = sumL (17 + tag) l := by
  unfold sumOf; rw [if_pos (by simp [h, inR]; omega)]
theorem sumOf_no {tag : Int} {l : List Int} (h : summed l = false) : sumOf tag l = -1 := by unfold sumOf; rw [if_neg (by simp [h])]
theorem sumOf_tag {tag : Int} {l : List Int} (h : inR tag 0 9 = false) : sumOf tag l = -1 := by unfold sumOf; rw [if_neg (by simp [h])]
theorem sumTo_in {tag : Int} (h0 : 0 ≤ tag) (h9 : tag ≤ 9) (l : List Int) : 0 ≤ sumL (17 + tag) l ∧ sumL (17 + tag) l < 1000003 := sumL_in (by omega) (by omega) l
def aNums (l : List Actn) : List Int := l.flatMap fun x => [x.kind, x.src, x.dst, x.amt]
theorem aNums_snoc {l : List Actn} {k : Nat} {x : Actn} (h : l[k]? = some x) : aNums (l.take (k + 1)) = aNums (l.take k) ++ [x.kind, x.src, x.dst, x.amt] := by
  rw [List.take_add_one, h]; simp [aNums]
theorem aNums_length (l : List Actn) : (aNums l).length = 4 * l.length := by
  induction l with
  | nil => rfl
  | cons x l ih => simp [aNums, List.flatMap_cons] at *; omega
theorem Actn.ok_kind {x : Actn} (h : x.ok = true) : 1 ≤ x.kind ∧ x.kind ≤ 6 := by
  simp only [Actn.ok, Bool.and_eq_true] at h
  have := h.2.2.2
  unfold kindOk at this
  split at this
  · omega
  · split at this
    · omega
    · simp at this; omega
theorem aNums_summed {l : List Actn} (h : ∀ x ∈ l, x.ok = true) : summed (aNums l) = true := by
  rw [summed_iff]
  intro n hn
  simp only [aNums, List.mem_flatMap] at hn
  obtain ⟨x, hx, hn⟩ := hn
  have h1 := h x hx
  have h2 := Actn.ok_kind h1
  simp only [Actn.ok, Bool.and_eq_true, inR_iff] at h1
  simp at hn
  omega
theorem summed_append {a b : List Int} (h : summed a = true) (h' : summed b = true) : summed (a ++ b) = true := by
  rw [summed_iff] at *; intro n hn; rcases List.mem_append.1 hn with h1 | h1
  · exact h n h1
  · exact h' n h1
/-- append of several elements just built. -/
theorem wpList_pushL {P : Program} {t e sz bytes : Nat} (F : AppFacts P t e sz bytes) {ops : Array Oper} {rest : List Oper} {o : Oper} {a : Act} {Q : Exit → Act → World → Prop} (hgd : o.guard = none) (s x : Operand)
    (ho : o.op = .call { callee := .builtin .append, args := #[s, x], argTypes := #[t, t] }) {α : Type} (enc : α → List Value) (he : ∀ x, (enc x).length = sz) (Wb : World) {W1 : World} {cs : Array Value} {e' : TypeId} (ys : List α) (l : List α) {v : Value} (hs : a.eval s = v)
    (hown : Own enc e sz Wb.heap.size W1 v l) (hE : Ext Wb W1) {g m c : Nat} (hx : a.eval x = .slice (some ⟨g, 0, none⟩) m c) (hm : m = ys.length) (hg : g = W1.heap.size) (hcs : cs.toList = ys.flatMap enc)
    (h1 : ∀ u ∈ ys.flatMap enc, u.oneCell' = true) (hb : (l.length + ys.length) * bytes ≤ 140737488355328) (hb' : l.length + ys.length ≤ 9223372036854775807)
    (h : ∀ v' (z1 : Extd Wb), Own enc e sz Wb.heap.size z1.val v' (l ++ ys) → wpList P ops Q rest (a.put o.dst v') z1.val) : wpList P ops Q (o :: rest) a (W1.alloc (.cells cs e')) := by
  subst hg; subst hm
  obtain ⟨i, z, hi, hz, hsize, hby, hzs⟩ := F.info
  have hown' : (W1.alloc (.cells cs e')).ownsRow Wb.heap.size e sz v l.length (l.flatMap enc) := hown.up ((Ext.refl _).alloc _)
  have hE' := hE.alloc (.cells cs e')
  refine wpList_append_own _ hgd s x t ho Wb.heap.size e i z sz bytes F.und hi hz hsize hby hzs F.pos v l.length (l.flatMap enc) hs hown' ⟨W1.heap.size, 0, none⟩ ys.length c (ys.flatMap enc) hx (flatMap_length he ys) (fun j u hu => ?_) h1 (by simpa [maxLen] using hb') hb hE'.size ?_
  · have e1 : (⟨W1.heap.size, 0, none⟩ : Addr).add j = ⟨W1.heap.size, j, none⟩ := by unfold Addr.add; split <;> simp_all
    rw [e1, cell_of_row _ W1.heap.size j cs e' (0, 0) (heap_alloc_new W1 _), ← Array.getElem?_toList, hcs]
    exact hu
  · intro v' w1 hown1 hg1 _
    refine h v' ⟨w1, hE'.grown hg1 fun k hk => (World.ownsRow.lt hown' k hk).1⟩ ?_
    show w1.ownsRow _ _ _ _ _ _
    simpa [Own] using hown1
/-- .. in a region that draws its order. -/
theorem step_pushL {P : Program} {t e sz bytes : Nat} (F : AppFacts P t e sz bytes) {ops : Array Oper} {o : Oper} {a : Act} {K : Act → World → Prop} {Q : Exit → Act → World → Prop} {E : Prop} (hgd : o.guard = none) (s x : Operand)
    (ho : o.op = .call { callee := .builtin .append, args := #[s, x], argTypes := #[t, t] }) {α : Type} (enc : α → List Value) (he : ∀ x, (enc x).length = sz) (Wb : World) {W1 : World} {cs : Array Value} {e' : TypeId} (ys : List α) (l : List α) {v : Value} (hs : a.eval s = v)
    (hown : Own enc e sz Wb.heap.size W1 v l) (hE : Ext Wb W1) {g m c : Nat} (hx : a.eval x = .slice (some ⟨g, 0, none⟩) m c) (hm : m = ys.length) (hm0 : 0 < m) (hg : g = W1.heap.size) (hcs : cs.toList = ys.flatMap enc)
    (h1 : ∀ u ∈ ys.flatMap enc, u.oneCell' = true) (hb : (l.length + ys.length) * bytes ≤ 140737488355328) (hb' : l.length + ys.length ≤ 9223372036854775807)
    (h : ∀ v' (z1 : Extd Wb), Own enc e sz Wb.heap.size z1.val v' (l ++ ys) → K (a.put o.dst v') z1.val) :
    if Region.wanted o (yielded ops a.tmps) = true then Oper.wp P o a (W1.alloc (.cells cs e')).drew K Q else E := by
  subst hg; subst hm
  obtain ⟨i, z, hi, hz, hsize, hby, hzs⟩ := F.info
  have hown' : (W1.alloc (.cells cs e')).drew.ownsRow Wb.heap.size e sz v l.length (l.flatMap enc) := hown.up ((Ext.refl _).alloc _).drew
  have hE' := (hE.alloc (.cells cs e')).drew
  refine step_append_lies _ hgd s x t ho Wb.heap.size e i z sz bytes F.und hi hz hsize hby hzs F.pos v l.length (l.flatMap enc) hs hown' ⟨W1.heap.size, 0, none⟩ ys.length c (ys.flatMap enc) hx (flatMap_length he ys) (fun j u hu => ?_) h1 hm0 (by simpa [maxLen] using hb') hb hE'.size _ rfl ?_
  · have e1 : (⟨W1.heap.size, 0, none⟩ : Addr).add j = ⟨W1.heap.size, j, none⟩ := by unfold Addr.add; split <;> simp_all
    rw [e1, cell_of_row (W1.alloc (.cells cs e')).drew W1.heap.size j cs e' (0, 0) (heap_alloc_new W1 _), ← Array.getElem?_toList, hcs]
    exact hu
  · intro g cap w1 hown1 hg1 _ _
    refine h _ ⟨w1, hE'.grown hg1 fun k hk => (World.ownsRow.lt hown' k hk).1⟩ ?_
    show w1.ownsRow _ _ _ _ _ _
    simpa [Own] using hown1
theorem oneIs (l : List Int) : ∀ u ∈ l.flatMap encI, u.oneCell' = true := by
  intro u hu
  obtain ⟨x, _, h⟩ := List.mem_flatMap.1 hu
  exact oneI x u h
end Go.Proofs.Ytkboefmkfpnpjaa
