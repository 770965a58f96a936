/- Walks: sums. -/
import Derived.Test.YtknohbdhbjppjaaNum
import Derived.Test.YtknohbdhbjppjaaFlat
import Derived.Test.YtknohbdhbjppjaaSumL
namespace Go.Proofs.Ytknohbdhbjppjaa
open Go Go.RowKit Go.Proofs

theorem sumOf1_any (n : Int) (w : World) : Calls Try.prog 167 #[.int .i64 n] w fun e w' => e = .returned (.bool (!inR n 0 2000000)) ∧ w = w' := by
  go_enter Try.func167, Try.ntmps167
  go_wp2_with (go_at_call 168; refine (isSummed_any _ _).mono ?_; rintro e w' ⟨rfl, rfl⟩)
  go_ret
  exact ⟨rfl, rfl⟩
set_option maxHeartbeats 1000000 in
theorem indexSummed_any (l : List Int) (v : Value) (w : World) (h : SL (RF encI) 1 w v l) :
    Calls Try.prog 189 #[v, .func (.func 167) #[] #[]] w fun e w' => ∃ n : Int, e = .returned (.int .i64 n) ∧ decide (0 ≤ n) = !summed l ∧ w = w' := by
  obtain ⟨p, cap, rfl, hlen, hc⟩ := h.open
  clear h
  unfold summed
  go_enter Try.func189, Try.ntmps189
  go_wp2_with fail
  go_loop [5, 8] (fun _ s8 => ∃ (k : Nat), s8 = .int .i64 k ∧ k ≤ l.length ∧ (l.take k).all (fun n => inR n 0 2000000) = true) (fun _ s8 => l.length - (intOf s8).toNat)
  case atStart => exact ⟨0, rfl, Nat.zero_le _, rfl⟩
  case round =>
    obtain ⟨k, rfl, hk, hall⟩ := hrel
    by_cases hlt : k < l.length
    · obtain ⟨x, hxk⟩ := getElem?_some_of_lt hlt
      obtain ⟨b, off, rfl, hb, hcc⟩ := hc k x hxk
      have c0 : w.cell? ⟨b, off + k, none⟩ = some (.int .i64 x) := by have := hcc 0 _ rfl; simpa using this
      have k0 : (0 : Int) ≤ (k : Int) := by omega
      have Hx := Lib.hid hxk; have Hall := Lib.hid hall
      clear hc hcc hxk hall
      have kq := fun w => sumOf1_any x w
      rcases hq : inR x 0 2000000 with _ | _
      · rw [hq] at kq
        go_wp2_with (go_at_call 167; refine (kq _).mono ?_; rintro e w' ⟨rfl, rfl⟩)
        go_ret
        refine ⟨_, rfl, ?_, rfl⟩
        rw [List.all_eq_false.2 ⟨x, List.mem_of_getElem? Hx.out, by simp [hq]⟩]; simp
      · rw [hq] at kq
        go_wp2_with (go_at_call 167; refine (kq _).mono ?_; rintro e w' ⟨rfl, rfl⟩)
        go_round
        case rel => exact ⟨k + 1, by go_num, by omega, by rw [List.take_add_one, Hx.out, List.all_append, Hall.out]; simp [hq]⟩
        case measure => simp [intOf]; omega
    · go_wp2_with fail
      go_ret
      refine ⟨_, rfl, ?_, rfl⟩
      have : l.take k = l := List.take_of_length_le (by omega)
      rw [this] at hall
      rw [hall]; rfl
theorem containsSummed_any (l : List Int) (v : Value) (w : World) (h : SL (RF encI) 1 w v l) :
    Calls Try.prog 166 #[v, .func (.func 167) #[] #[]] w fun e w' => e = .returned (.bool (!summed l)) ∧ w = w' := by
  have H := Lib.hid h; clear h
  go_enter Try.func166, Try.ntmps166
  go_wp2_with (go_at_call 189; refine (indexSummed_any l _ _ H.out).mono ?_; rintro e w' ⟨n, rfl, hn, rfl⟩)
  go_ret
  exact ⟨rfl, rfl⟩
theorem more_any (s n : Int) (w : World) (h0 : 0 ≤ s) (h1 : s ≤ 1000002) (h2 : 0 ≤ n) (h3 : n ≤ 2000000) : Calls Try.prog 169 #[.int .i64 s, .int .i64 n] w fun e w' => e = .returned (.int .i64 (sumStep s n)) ∧ w = w' := by
  unfold sumStep
  go_enter Try.func169, Try.ntmps169
  go_wp2
  go_ret
  exact ⟨rfl, rfl⟩
set_option maxHeartbeats 1000000 in
theorem sumOf_any (tag : Int) (l : List Int) (v : Value) (w : World) (h : SL (RF encI) 1 w v l) :
    Calls Try.prog 131 #[.int .i64 tag, v] w fun e w' => e = .returned (.int .i64 (sumOf tag l)) ∧ Up w w' := by
  have H := Lib.hid h
  obtain ⟨p, cap, rfl, hlen, hc⟩ := h.open
  clear h
  rcases guards2 (inR tag 0 9) (summed l) with h1 | ⟨h1, h2⟩ | ⟨h1, h2⟩
  · rw [sumOf_tag h1]
    go_enter Try.func131, Try.ntmps131
    go_wp2_with (go_at_call 89; refine (in_any _ _ _ _).mono ?_; rintro e w' ⟨rfl, rfl⟩)
    go_ret
    exact ⟨rfl, (.of (by repeat (first | exact Ext.refl _ | refine Ext.up ?_ _ | refine Ext.alloc ?_ _ | refine Ext.drew ?_ | refine Ext.setRow ?_ (by first | (dsimp only; omega) | exact LeS.le | exact LeS.add _ | (simp; done) | (simp; omega)) _ | refine Ext.setCell ?_ (by first | (dsimp only; omega) | exact LeS.le | exact LeS.add _ | (simp; done) | (simp; omega)) _)))⟩
  · rw [sumOf_no h2]
    go_enter Try.func131, Try.ntmps131
    go_wp2_with (first | (go_at_call 89; refine (in_any _ _ _ _).mono ?_; rintro e w' ⟨rfl, rfl⟩) | (go_at_call 166; refine (containsSummed_any l _ _ H.out).mono ?_; rintro e w' ⟨rfl, rfl⟩))
    go_ret
    exact ⟨rfl, (.of (by repeat (first | exact Ext.refl _ | refine Ext.up ?_ _ | refine Ext.alloc ?_ _ | refine Ext.drew ?_ | refine Ext.setRow ?_ (by first | (dsimp only; omega) | exact LeS.le | exact LeS.add _ | (simp; done) | (simp; omega)) _ | refine Ext.setCell ?_ (by first | (dsimp only; omega) | exact LeS.le | exact LeS.add _ | (simp; done) | (simp; omega)) _)))⟩
  obtain ⟨t0, t9⟩ := inR_iff.1 h1
  rw [sumOf_yes t0 t9 h2]
  go_enter Try.func131, Try.ntmps131
  go_wp2_with (first | (go_at_call 89; refine (in_any _ _ _ _).mono ?_; rintro e w' ⟨rfl, rfl⟩) | (go_at_call 166; refine (containsSummed_any l _ _ H.out).mono ?_; rintro e w' ⟨rfl, rfl⟩))
  have H2 := Lib.hid h2; clear h1 h2
  go_loop [5, 7, 19] (fun s5 _ s19 => ∃ k : Nat, s19 = .int .i64 k ∧ s5 = .int .i64 (sumL (17 + tag) (l.take k)) ∧ k ≤ l.length) (fun _ _ s19 => l.length - (intOf s19).toNat)
  case atStart => exact ⟨0, rfl, rfl, Nat.zero_le _⟩
  case round =>
    obtain ⟨k, rfl, rfl, hk⟩ := hrel
    by_cases hlt : k < l.length
    · obtain ⟨x, hxk⟩ := getElem?_some_of_lt hlt
      obtain ⟨b, off, rfl, hb, hcc⟩ := hc k x hxk
      have c0 : w.cell? ⟨b, off + k, none⟩ = some (.int .i64 x) := by have := hcc 0 _ rfl; simpa using this
      obtain ⟨s0, s1⟩ := sumTo_in t0 t9 (l.take k)
      obtain ⟨x0, x1⟩ := summed_at H2.out hxk
      have Hs := Lib.hid (sumL_snoc (17 + tag) hxk)
      clear hc hcc hxk
      go_wp2_with (go_at_call 169; refine (more_any _ _ _ s0 (by omega) x0 x1).mono ?_; rintro e w' ⟨rfl, rfl⟩)
      go_round
      case rel => exact ⟨k + 1, by go_num, by rw [Hs.out], by omega⟩
      case measure => simp [intOf]; omega
    · go_wp2_with fail
      go_ret
      obtain rfl : k = l.length := by omega
      rw [List.take_length]
      exact ⟨rfl, (.of (by repeat (first | exact Ext.refl _ | refine Ext.up ?_ _ | refine Ext.alloc ?_ _ | refine Ext.drew ?_ | refine Ext.setRow ?_ (by first | (dsimp only; omega) | exact LeS.le | exact LeS.add _ | (simp; done) | (simp; omega)) _ | refine Ext.setCell ?_ (by first | (dsimp only; omega) | exact LeS.le | exact LeS.add _ | (simp; done) | (simp; omega)) _)))⟩
set_option maxHeartbeats 1000000 in
theorem l1Sum_any (tag : Int) (l : List Int) (v : Value) (w : World) (h : SL (RF encI) 1 w v l) (t0 : 0 ≤ tag) (t9 : tag ≤ 9) (h2 : summed l = true) :
    Calls Try.prog 149 #[.int .i64 tag, v] w fun e w' => e = .returned (.int .i64 (sumL (17 + tag) l)) ∧ w = w' := by
  obtain ⟨p, cap, rfl, hlen, hc⟩ := h.open
  have H2 := Lib.hid h2
  clear h h2
  go_enter Try.func149, Try.ntmps149
  go_wp2_with fail
  go_loop [5, 6] (fun s5 s6 => ∃ k : Nat, s6 = .int .i64 k ∧ s5 = .int .i64 (sumL (17 + tag) (l.take k)) ∧ k ≤ l.length) (fun _ s6 => l.length - (intOf s6).toNat)
  case atStart => exact ⟨0, rfl, rfl, Nat.zero_le _⟩
  case round =>
    obtain ⟨k, rfl, rfl, hk⟩ := hrel
    by_cases hlt : k < l.length
    · obtain ⟨x, hxk⟩ := getElem?_some_of_lt hlt
      obtain ⟨b, off, rfl, hb, hcc⟩ := hc k x hxk
      have c0 : w.cell? ⟨b, off + k, none⟩ = some (.int .i64 x) := by have := hcc 0 _ rfl; simpa using this
      obtain ⟨s0, s1⟩ := sumTo_in t0 t9 (l.take k)
      obtain ⟨x0, x1⟩ := summed_at H2.out hxk
      have hs := sumL_snoc (17 + tag) hxk
      unfold sumStep at hs
      have Hs := Lib.hid hs
      clear hc hcc hxk hs
      go_wp2_with fail
      go_round
      case rel => exact ⟨k + 1, by go_num, by rw [Hs.out], by omega⟩
      case measure => simp [intOf]; omega
    · go_wp2_with fail
      go_ret
      obtain rfl : k = l.length := by omega
      rw [List.take_length]
      exact ⟨rfl, rfl⟩
end Go.Proofs.Ytknohbdhbjppjaa
