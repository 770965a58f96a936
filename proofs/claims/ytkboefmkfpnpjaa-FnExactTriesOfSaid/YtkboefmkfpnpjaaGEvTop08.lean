/- Walks: blocks. Plain ground: a slice made by a callee stays behind stores into older blocks. Walks: sums. Walks: the reference's conflicts. -/
import Derived.Test.YtkboefmkfpnpjaaGEvTop07
import Derived.Test.YtkboefmkfpnpjaaGEvTop01
import Derived.Test.YtkboefmkfpnpjaaGEvTop05
set_option linter.unusedSimpArgs false
set_option linter.unusedVariables false
namespace Go.Proofs.Ytkboefmkfpnpjaa
open Go Go.RowKit Go.Proofs

structure Blk where
  (bf ht vw rt ef : Int)
def Blk.okL (b : Blk) (l : List Actn) : Bool := inR b.bf 0 1000002 && (inR b.rt 0 1000002 && (inR b.ef 0 1000002 && (inR b.ht 0 100 && (inR b.vw 0 1000 && actsOk l))))
theorem guards5 (a b c d e : Bool) : a = false ∨ (a = true ∧ b = false) ∨ (a = true ∧ b = true ∧ c = false) ∨ (a = true ∧ b = true ∧ c = true ∧ d = false) ∨ (a = true ∧ b = true ∧ c = true ∧ d = true ∧ e = false) ∨ (a = true ∧ b = true ∧ c = true ∧ d = true ∧ e = true) := by cases a <;> cases b <;> cases c <;> cases d <;> cases e <;> simp

end Go.Proofs.Ytkboefmkfpnpjaa
namespace Go.Proofs.Ytkboefmkfpnpjaa
open Go Go.RowKit Go.Proofs

theorem grownBy_set (w : World) (a : Addr) (u : Value) : w.grownBy (w.setCell a u) (some a.block) := by
  refine ⟨rfl, rfl, rfl, by simp [World.setCell], fun k hk hne => ?_⟩
  have : a.block ≠ k := fun e => hne (by rw [e])
  simp [World.setCell, Array.getElem?_modify, this]
theorem Own.setOld {α : Type} {enc : α → List Value} {e sz lo : Nat} {w : World} {v : Value} {l : List α} (h : Own enc e sz lo w v l) (a : Addr) (u : Value) (hlt : a.block < lo) : Own enc e sz lo (w.setCell a u) v l := by
  refine h.kept (grownBy_set w a u) ?_
  cases hv : v.ownBlock with
  | none => exact .inl rfl
  | some k =>
    right; intro e
    have h1 := (World.ownsRow.lt h k hv).1
    injection e with e; omega
end Go.Proofs.Ytkboefmkfpnpjaa
namespace Go.Proofs.Ytkboefmkfpnpjaa
open Go Go.RowKit Go.Proofs

theorem sumOf1_any (n : Int) (w : World) : Calls Try.prog 133 #[.int .i64 n] w fun e w' => e = .returned (.bool (!inR n 0 2000000)) ∧ w = w' := by
  go_enter Try.func133, Try.ntmps133
  go_wp2_with (go_at_call 85; refine (isSummed_any _ _).mono ?_; rintro e w' ⟨rfl, rfl⟩)
  go_ret
  exact ⟨rfl, rfl⟩
set_option maxHeartbeats 1000000 in
theorem indexSummed_any (l : List Int) (v : Value) (w : World) (h : SL (RF encI) 1 w v l) :
    Calls Try.prog 170 #[v, .func (.func 133) #[] #[]] w fun e w' => ∃ n : Int, e = .returned (.int .i64 n) ∧ decide (0 ≤ n) = !summed l ∧ w = w' := by
  obtain ⟨p, cap, rfl, hlen, hc⟩ := h.open
  clear h
  unfold summed
  go_enter Try.func170, Try.ntmps170
  go_wp2_with fail
  go_loop [5, 8] (fun _ s8 => ∃ (k : Nat), s8 = .int .i64 k ∧ k ≤ l.length ∧ (l.take k).all (fun n => inR n 0 2000000) = true) (fun _ s8 => l.length - (intOf s8).toNat)
  case atStart => exact ⟨0, rfl, Nat.zero_le _, rfl⟩
  case round =>
    obtain ⟨k, rfl, hk, hall⟩ := hrel
    by_cases hlt : k < l.length
    · obtain ⟨x, hxk⟩ := getElem?_some_of_lt hlt
      obtain ⟨b, off, rfl, hb, hcc⟩ := hc k x hxk
      have c0 : w.cell? ⟨b, off + k, none⟩ = some (.int .i64 x) := by have := hcc 0 _ rfl; simpa using this
      have k0 : (0 : Int) ≤ (k : Int) := by omega
      have Hx := Lib.hid hxk; have Hall := Lib.hid hall
      clear hc hcc hxk hall
      have kq := fun w => sumOf1_any x w
      rcases hq : inR x 0 2000000 with _ | _
      · rw [hq] at kq
        go_wp2_with (go_at_call 133; refine (kq _).mono ?_; rintro e w' ⟨rfl, rfl⟩)
        go_ret
        refine ⟨_, rfl, ?_, rfl⟩
        rw [List.all_eq_false.2 ⟨x, List.mem_of_getElem? Hx.out, by simp [hq]⟩]; simp
      · rw [hq] at kq
        go_wp2_with (go_at_call 133; refine (kq _).mono ?_; rintro e w' ⟨rfl, rfl⟩)
        go_round
        case rel => exact ⟨k + 1, by go_num, by omega, by rw [List.take_add_one, Hx.out, List.all_append, Hall.out]; simp [hq]⟩
        case measure => simp [intOf]; omega
    · go_wp2_with fail
      go_ret
      refine ⟨_, rfl, ?_, rfl⟩
      have : l.take k = l := List.take_of_length_le (by omega)
      rw [this] at hall
      rw [hall]; rfl
theorem containsSummed_any (l : List Int) (v : Value) (w : World) (h : SL (RF encI) 1 w v l) :
    Calls Try.prog 132 #[v, .func (.func 133) #[] #[]] w fun e w' => e = .returned (.bool (!summed l)) ∧ w = w' := by
  have H := Lib.hid h; clear h
  go_enter Try.func132, Try.ntmps132
  go_wp2_with (go_at_call 170; refine (indexSummed_any l _ _ H.out).mono ?_; rintro e w' ⟨n, rfl, hn, rfl⟩)
  go_ret
  exact ⟨rfl, rfl⟩
theorem more_any (s n : Int) (w : World) (h0 : 0 ≤ s) (h1 : s ≤ 1000002) (h2 : 0 ≤ n) (h3 : n ≤ 2000000) : Calls Try.prog 86 #[.int .i64 s, .int .i64 n] w fun e w' => e = .returned (.int .i64 (sumStep s n)) ∧ w = w' := by
  unfold sumStep
  go_enter Try.func86, Try.ntmps86
  go_wp2
  go_ret
  exact ⟨rfl, rfl⟩
set_option maxHeartbeats 1000000 in
theorem sumOf_any (tag : Int) (l : List Int) (v : Value) (w : World) (h : SL (RF encI) 1 w v l) :
    Calls Try.prog 67 #[.int .i64 tag, v] w fun e w' => e = .returned (.int .i64 (sumOf tag l)) ∧ Up w w' := by
  have H := Lib.hid h
  obtain ⟨p, cap, rfl, hlen, hc⟩ := h.open
  clear h
  rcases guards2 (inR tag 0 9) (summed l) with h1 | ⟨h1, h2⟩ | ⟨h1, h2⟩
  · rw [sumOf_tag h1]
    go_enter Try.func67, Try.ntmps67
    go_wp2_with (go_at_call 88; refine (in_any _ _ _ _).mono ?_; rintro e w' ⟨rfl, rfl⟩)
    go_ret
    exact ⟨rfl, (.of (by repeat (first | exact Ext.refl _ | refine Ext.up ?_ _ | refine Ext.alloc ?_ _ | refine Ext.drew ?_ | refine Ext.setRow ?_ (by first | (dsimp only; omega) | exact LeS.le | exact LeS.add _ | (simp; done) | (simp; omega)) _ | refine Ext.setCell ?_ (by first | (dsimp only; omega) | exact LeS.le | exact LeS.add _ | (simp; done) | (simp; omega)) _)))⟩
  · rw [sumOf_no h2]
    go_enter Try.func67, Try.ntmps67
    go_wp2_with (first | (go_at_call 88; refine (in_any _ _ _ _).mono ?_; rintro e w' ⟨rfl, rfl⟩) | (go_at_call 132; refine (containsSummed_any l _ _ H.out).mono ?_; rintro e w' ⟨rfl, rfl⟩))
    go_ret
    exact ⟨rfl, (.of (by repeat (first | exact Ext.refl _ | refine Ext.up ?_ _ | refine Ext.alloc ?_ _ | refine Ext.drew ?_ | refine Ext.setRow ?_ (by first | (dsimp only; omega) | exact LeS.le | exact LeS.add _ | (simp; done) | (simp; omega)) _ | refine Ext.setCell ?_ (by first | (dsimp only; omega) | exact LeS.le | exact LeS.add _ | (simp; done) | (simp; omega)) _)))⟩
  obtain ⟨t0, t9⟩ := inR_iff.1 h1
  rw [sumOf_yes t0 t9 h2]
  go_enter Try.func67, Try.ntmps67
  go_wp2_with (first | (go_at_call 88; refine (in_any _ _ _ _).mono ?_; rintro e w' ⟨rfl, rfl⟩) | (go_at_call 132; refine (containsSummed_any l _ _ H.out).mono ?_; rintro e w' ⟨rfl, rfl⟩))
  have H2 := Lib.hid h2; clear h1 h2
  go_loop [5, 7, 19] (fun s5 _ s19 => ∃ k : Nat, s19 = .int .i64 k ∧ s5 = .int .i64 (sumL (17 + tag) (l.take k)) ∧ k ≤ l.length) (fun _ _ s19 => l.length - (intOf s19).toNat)
  case atStart => exact ⟨0, rfl, rfl, Nat.zero_le _⟩
  case round =>
    obtain ⟨k, rfl, rfl, hk⟩ := hrel
    by_cases hlt : k < l.length
    · obtain ⟨x, hxk⟩ := getElem?_some_of_lt hlt
      obtain ⟨b, off, rfl, hb, hcc⟩ := hc k x hxk
      have c0 : w.cell? ⟨b, off + k, none⟩ = some (.int .i64 x) := by have := hcc 0 _ rfl; simpa using this
      obtain ⟨s0, s1⟩ := sumTo_in t0 t9 (l.take k)
      obtain ⟨x0, x1⟩ := summed_at H2.out hxk
      have Hs := Lib.hid (sumL_snoc (17 + tag) hxk)
      clear hc hcc hxk
      go_wp2_with (go_at_call 86; refine (more_any _ _ _ s0 (by omega) x0 x1).mono ?_; rintro e w' ⟨rfl, rfl⟩)
      go_round
      case rel => exact ⟨k + 1, by go_num, by rw [Hs.out], by omega⟩
      case measure => simp [intOf]; omega
    · go_wp2_with fail
      go_ret
      obtain rfl : k = l.length := by omega
      rw [List.take_length]
      exact ⟨rfl, (.of (by repeat (first | exact Ext.refl _ | refine Ext.up ?_ _ | refine Ext.alloc ?_ _ | refine Ext.drew ?_ | refine Ext.setRow ?_ (by first | (dsimp only; omega) | exact LeS.le | exact LeS.add _ | (simp; done) | (simp; omega)) _ | refine Ext.setCell ?_ (by first | (dsimp only; omega) | exact LeS.le | exact LeS.add _ | (simp; done) | (simp; omega)) _)))⟩
set_option maxHeartbeats 1000000 in
theorem l1Sum_any (tag : Int) (l : List Int) (v : Value) (w : World) (h : SL (RF encI) 1 w v l) (t0 : 0 ≤ tag) (t9 : tag ≤ 9) (h2 : summed l = true) :
    Calls Try.prog 141 #[.int .i64 tag, v] w fun e w' => e = .returned (.int .i64 (sumL (17 + tag) l)) ∧ w = w' := by
  obtain ⟨p, cap, rfl, hlen, hc⟩ := h.open
  have H2 := Lib.hid h2
  clear h h2
  go_enter Try.func141, Try.ntmps141
  go_wp2_with fail
  go_loop [5, 6] (fun s5 s6 => ∃ k : Nat, s6 = .int .i64 k ∧ s5 = .int .i64 (sumL (17 + tag) (l.take k)) ∧ k ≤ l.length) (fun _ s6 => l.length - (intOf s6).toNat)
  case atStart => exact ⟨0, rfl, rfl, Nat.zero_le _⟩
  case round =>
    obtain ⟨k, rfl, rfl, hk⟩ := hrel
    by_cases hlt : k < l.length
    · obtain ⟨x, hxk⟩ := getElem?_some_of_lt hlt
      obtain ⟨b, off, rfl, hb, hcc⟩ := hc k x hxk
      have c0 : w.cell? ⟨b, off + k, none⟩ = some (.int .i64 x) := by have := hcc 0 _ rfl; simpa using this
      obtain ⟨s0, s1⟩ := sumTo_in t0 t9 (l.take k)
      obtain ⟨x0, x1⟩ := summed_at H2.out hxk
      have hs := sumL_snoc (17 + tag) hxk
      unfold sumStep at hs
      have Hs := Lib.hid hs
      clear hc hcc hxk hs
      go_wp2_with fail
      go_round
      case rel => exact ⟨k + 1, by go_num, by rw [Hs.out], by omega⟩
      case measure => simp [intOf]; omega
    · go_wp2_with fail
      go_ret
      obtain rfl : k = l.length := by omega
      rw [List.take_length]
      exact ⟨rfl, rfl⟩
end Go.Proofs.Ytkboefmkfpnpjaa
namespace Go.Proofs.Ytkboefmkfpnpjaa
open Go Go.RowKit Go.Proofs

theorem common_next {a b : List Int} {k : Nat} {x : Int} (h : a[k]? = some x) (h0 : common (a.take k) b = false) (h1 : b.contains x = false) : common (a.take (k + 1)) b = false := by
  rw [List.take_add_one, h]; simp only [common, List.any_append, Option.toList_some, List.any_cons, List.any_nil, Bool.or_false, Bool.or_eq_false_iff] at *
  exact ⟨h0, h1⟩
theorem common_hit {a b : List Int} {k j : Nat} {x : Int} (h : a[k]? = some x) (h1 : b[j]? = some x) : common a b = true := by
  simp only [common, List.any_eq_true, List.contains_iff_mem]
  exact ⟨x, List.mem_of_getElem? h, List.mem_of_getElem? h1⟩
theorem contains_next {b : List Int} {j : Nat} {x y : Int} (h : b[j]? = some y) (h0 : (b.take j).contains x = false) (h1 : (x == y) = false) : (b.take (j + 1)).contains x = false := by
  have h1' : ¬ x = y := by simpa using h1
  rw [List.take_add_one, h]
  simp only [List.contains_eq_mem, List.mem_append, Option.toList_some, List.mem_singleton, decide_eq_false_iff_not, not_or] at *
  exact ⟨h0, h1'⟩

set_option maxHeartbeats 1000000 in
theorem l8Common_any (a b : List Int) (v v' : Value) (w : World) (h : SL (RF encI) 1 w v a) (h' : SL (RF encI) 1 w v' b) :
    Calls Try.prog 63 #[v, v'] w fun e w' => e = .returned (.bool (common a b)) ∧ Up w w' := by
  obtain ⟨p, cap, rfl, hlen, hc⟩ := h.open
  obtain ⟨p', cap', rfl, hlen', hc'⟩ := h'.open
  clear h h'
  go_enter Try.func63, Try.ntmps63
  go_wp2_with fail
  go_loopw [5, 6] (fun s5 _ wr => ∃ (k : Nat), s5 = .int .i64 k ∧ k ≤ a.length ∧ common (a.take k) b = false ∧ Up w wr) (fun s5 _ _ => a.length - (intOf s5).toNat)
  case atStart => exact ⟨0, rfl, Nat.zero_le _, rfl, (.of (by repeat (first | exact Ext.refl _ | refine Ext.up ?_ _ | refine Ext.alloc ?_ _ | refine Ext.drew ?_ | refine Ext.setRow ?_ (by first | (dsimp only; omega) | exact LeS.le | exact LeS.add _ | (simp; done) | (simp; omega)) _ | refine Ext.setCell ?_ (by first | (dsimp only; omega) | exact LeS.le | exact LeS.add _ | (simp; done) | (simp; omega)) _)))⟩
  case round =>
    obtain ⟨k, rfl, hk, hcom, ⟨z, rfl⟩⟩ := hrel
    by_cases hlt : k < a.length
    · obtain ⟨x, hxk⟩ := getElem?_some_of_lt hlt
      obtain ⟨b1, off, rfl, hb, hcc⟩ := hc k x hxk
      have c0 : w.cell? ⟨b1, off + k, none⟩ = some (.int .i64 x) := by have := hcc 0 _ rfl; simpa using this
      have k0 : (0 : Int) ≤ (k : Int) := by omega
      have Hx := Lib.hid hxk; have Hcom := Lib.hid hcom
      clear hc hcc hxk hcom
      go_wp2_with fail
      obtain ⟨wo, hwo⟩ : ∃ wo : World, wo = z.val := ⟨_, rfl⟩
      clear hwo
      go_loopw [6] (fun s6 wr => ∃ (j : Nat), s6 = .int .i64 j ∧ j ≤ b.length ∧ (b.take j).contains x = false ∧ Up w wr) (fun s6 _ => b.length - (intOf s6).toNat)
      case atStart => exact ⟨0, rfl, Nat.zero_le _, rfl, z, rfl⟩
      case round =>
        obtain ⟨j, rfl, hj, hcon, ⟨z', rfl⟩⟩ := hrel
        by_cases hlt' : j < b.length
        · obtain ⟨y, hyj⟩ := getElem?_some_of_lt hlt'
          obtain ⟨b2, off', rfl, hb', hdd⟩ := hc' j y hyj
          have d0 : w.cell? ⟨b2, off' + j, none⟩ = some (.int .i64 y) := by have := hdd 0 _ rfl; simpa using this
          have j0 : (0 : Int) ≤ (j : Int) := by omega
          have Hy := Lib.hid hyj; have Hcon := Lib.hid hcon
          clear hc' hdd hyj hcon
          rcases hq : (x == y) with _ | _
          · go_wp2_with fail
            (refine wp_region_up (by kernel_rfl) (by kernel_rfl) ?_; (repeat (go_big_quiet_step (fail))); refine wpQuiet_nil ?_; intro _ hw'; obtain ⟨zq, hw''⟩ := hw'; subst hw'')
            go_wp2_with fail
            go_roundw
            case rel => exact ⟨j + 1, by go_num, by omega, contains_next Hy.out Hcon.out hq, (.of (by repeat (first | exact Ext.refl _ | refine Ext.up ?_ _ | refine Ext.alloc ?_ _ | refine Ext.drew ?_ | refine Ext.setRow ?_ (by first | (dsimp only; omega) | exact LeS.le | exact LeS.add _ | (simp; done) | (simp; omega)) _ | refine Ext.setCell ?_ (by first | (dsimp only; omega) | exact LeS.le | exact LeS.add _ | (simp; done) | (simp; omega)) _)))⟩
            case measure => simp [intOf]; omega
          · go_wp2_with fail
            (refine wp_region_up (by kernel_rfl) (by kernel_rfl) ?_; (repeat (go_big_quiet_step (fail))); refine wpQuiet_nil ?_; intro _ hw'; obtain ⟨zq, hw''⟩ := hw'; subst hw'')
            go_wp2_with fail
            go_ret
            refine ⟨?_, (.of (by repeat (first | exact Ext.refl _ | refine Ext.up ?_ _ | refine Ext.alloc ?_ _ | refine Ext.drew ?_ | refine Ext.setRow ?_ (by first | (dsimp only; omega) | exact LeS.le | exact LeS.add _ | (simp; done) | (simp; omega)) _ | refine Ext.setCell ?_ (by first | (dsimp only; omega) | exact LeS.le | exact LeS.add _ | (simp; done) | (simp; omega)) _)))⟩
            show Ending.returned (.bool true) = _
            have e : x = y := by simpa using hq
            rw [common_hit Hx.out (by rw [e]; exact Hy.out)]
        · go_wp2_with fail
          have ej : j = b.length := by omega
          go_roundw
          case rel => exact ⟨k + 1, by go_num, by omega, common_next Hx.out Hcom.out (by rw [ej, List.take_length] at hcon; exact hcon), (.of (by repeat (first | exact Ext.refl _ | refine Ext.up ?_ _ | refine Ext.alloc ?_ _ | refine Ext.drew ?_ | refine Ext.setRow ?_ (by first | (dsimp only; omega) | exact LeS.le | exact LeS.add _ | (simp; done) | (simp; omega)) _ | refine Ext.setCell ?_ (by first | (dsimp only; omega) | exact LeS.le | exact LeS.add _ | (simp; done) | (simp; omega)) _)))⟩
          case measure => simp [intOf]; omega
    · go_wp2_with fail
      go_ret
      obtain rfl : k = a.length := by omega
      refine ⟨?_, (.of (by repeat (first | exact Ext.refl _ | refine Ext.up ?_ _ | refine Ext.alloc ?_ _ | refine Ext.drew ?_ | refine Ext.setRow ?_ (by first | (dsimp only; omega) | exact LeS.le | exact LeS.add _ | (simp; done) | (simp; omega)) _ | refine Ext.setCell ?_ (by first | (dsimp only; omega) | exact LeS.le | exact LeS.add _ | (simp; done) | (simp; omega)) _)))⟩
      show Ending.returned (.bool false) = _
      rw [List.take_length] at hcom
      rw [hcom]
theorem iConflict_any (x y : Actn) (w : World) : Calls Try.prog 15 #[.agg #[.int .i64 x.kind, .int .i64 x.src, .int .i64 x.dst, .int .i64 x.amt], .agg #[.int .i64 y.kind, .int .i64 y.src, .int .i64 y.dst, .int .i64 y.amt]] w fun e w' => e = .returned (.bool (conflict x y)) ∧ Up w w' := by
  rcases hx : x.ok with _ | _
  · rw [conflict, hx, Bool.false_and]
    go_enter Try.func15, Try.ntmps15
    go_wp2_with (go_at_call 61; refine (iActionValid_any _ _).mono ?_; rintro e w' ⟨rfl, z, rfl⟩)
    go_ret
    exact ⟨rfl, (.of (by repeat (first | exact Ext.refl _ | refine Ext.up ?_ _ | refine Ext.alloc ?_ _ | refine Ext.drew ?_ | refine Ext.setRow ?_ (by first | (dsimp only; omega) | exact LeS.le | exact LeS.add _ | (simp; done) | (simp; omega)) _ | refine Ext.setCell ?_ (by first | (dsimp only; omega) | exact LeS.le | exact LeS.add _ | (simp; done) | (simp; omega)) _)))⟩
  rcases hy : y.ok with _ | _
  · rw [conflict, hx, hy, Bool.true_and, Bool.false_and]
    go_enter Try.func15, Try.ntmps15
    go_wp2_with (go_at_call 61; refine (iActionValid_any _ _).mono ?_; rintro e w' ⟨rfl, z, rfl⟩)
    go_ret
    exact ⟨rfl, (.of (by repeat (first | exact Ext.refl _ | refine Ext.up ?_ _ | refine Ext.alloc ?_ _ | refine Ext.drew ?_ | refine Ext.setRow ?_ (by first | (dsimp only; omega) | exact LeS.le | exact LeS.add _ | (simp; done) | (simp; omega)) _ | refine Ext.setCell ?_ (by first | (dsimp only; omega) | exact LeS.le | exact LeS.add _ | (simp; done) | (simp; omega)) _)))⟩
  rw [conflict, hx, hy, Bool.true_and, Bool.true_and]
  go_enter Try.func15, Try.ntmps15
  go_wp2_with (first | (go_at_call 61; refine (iActionValid_any _ _).mono ?_; rintro e w' ⟨rfl, z, rfl⟩) | (go_at_call 62; refine (conflicts_any x y _ hx hy).mono ?_; rintro e w' ⟨rfl, z, rfl⟩))
  go_ret
  exact ⟨rfl, (.of (by repeat (first | exact Ext.refl _ | refine Ext.up ?_ _ | refine Ext.alloc ?_ _ | refine Ext.drew ?_ | refine Ext.setRow ?_ (by first | (dsimp only; omega) | exact LeS.le | exact LeS.add _ | (simp; done) | (simp; omega)) _ | refine Ext.setCell ?_ (by first | (dsimp only; omega) | exact LeS.le | exact LeS.add _ | (simp; done) | (simp; omega)) _)))⟩
end Go.Proofs.Ytkboefmkfpnpjaa
