/- The law FnLevelsOf's walk, and its plain law. -/
import Derived.Test.YtldmigmnbmnaiaaDrw
import Derived.Test.YtldmigmnbmnaiaaLvl
import Derived.Test.YtldmigmnbmnaiaaCSelf
namespace Go.Proofs.Ytldmigmnbmnaiaa
open Go Go.RowKit Go.Proofs

theorem lvlAt_ge {l : List Actn} {out : List Int} {k j : Nat} {x y : Actn} {o : Int} (hx : l[j]? = some x) (hy : l[k]? = some y) (ho : out[j]? = some o) (h : conf x y = true) : ∀ J, j < J → o + 1 ≤ lvlAt l out k J
  | 0, hJ => absurd hJ (Nat.not_lt_zero _)
  | J + 1, hJ => by
    by_cases hj : j = J
    · subst hj
      rw [lvlAt_yes hx hy ho h]
      exact Int.le_max_right _ _
    · have ih := lvlAt_ge hx hy ho h J (by omega)
      unfold lvlAt
      split
      · split
        · exact Int.le_trans ih (Int.le_max_left _ _)
        · exact ih
      · exact ih
theorem lvlAt_has {l : List Actn} {out : List Int} {k : Nat} : ∀ J, lvlAt l out k J = 0 ∨ ∃ j x y o, j < J ∧ l[j]? = some x ∧ l[k]? = some y ∧ out[j]? = some o ∧ conf x y = true ∧ o + 1 = lvlAt l out k J
  | 0 => .inl rfl
  | J + 1 => by
    have ih := lvlAt_has (l := l) (out := out) (k := k) J
    unfold lvlAt
    split
    · rename_i x y o hx hy ho
      split
      · rename_i hc
        by_cases hm : lvlAt l out k J ≤ o + 1
        · rw [Int.max_eq_right hm]
          exact .inr ⟨J, x, y, o, Nat.lt_succ_self _, hx, hy, ho, hc, rfl⟩
        · rw [Int.max_eq_left (by omega)]
          rcases ih with ih | ⟨j, a, b, c, hj, r⟩
          · exact .inl ih
          · exact .inr ⟨j, a, b, c, by omega, r⟩
      · rcases ih with ih | ⟨j, a, b, c, hj, r⟩
        · exact .inl ih
        · exact .inr ⟨j, a, b, c, by omega, r⟩
    · rcases ih with ih | ⟨j, a, b, c, hj, r⟩
      · exact .inl ih
      · exact .inr ⟨j, a, b, c, by omega, r⟩
theorem lvlTo_get (l : List Actn) {n k : Nat} (h : k < n) : (lvlTo l n)[k]? = some (lvlAt l (lvlTo l k) k k) := by
  have h1 : ((lvlTo l n).take (k + 1))[k]? = (lvlTo l (k + 1))[k]? := by rw [lvlTo_pre l (by omega)]
  rw [List.getElem?_take_of_lt (by omega)] at h1
  rw [h1, lvlTo, List.getElem?_append_right (by rw [lvlTo_length]; exact Nat.le_refl _), lvlTo_length, Nat.sub_self]
  rfl
theorem lvlTo_low (l : List Actn) {n k j : Nat} (hk : k ≤ n) (hj : j < k) : (lvlTo l k)[j]? = (lvlTo l n)[j]? := by
  rw [← lvlTo_pre l hk, List.getElem?_take_of_lt hj]
/-- Of two in conflict the later one is above. -/
theorem lvl_lt {l : List Actn} {n j k : Nat} {x y : Actn} {a b : Int} (hjk : j < k) (hkn : k < n) (hx : l[j]? = some x) (hy : l[k]? = some y) (ha : (lvlTo l n)[j]? = some a) (hb : (lvlTo l n)[k]? = some b) (h : conf x y = true) : a < b := by
  rw [lvlTo_get l hkn] at hb
  cases hb
  have := lvlAt_ge hx hy ((lvlTo_low l (Nat.le_of_lt hkn) hjk).trans ha) h k hjk
  omega
def fnd (l : List Actn) (lv : List Int) (k : Nat) : Nat → Bool
  | 0 => match lv[k]? with | some b => b == 0 | none => false
  | j + 1 => fnd l lv k j || match l[j]?, l[k]?, lv[j]?, lv[k]? with
    | some x, some y, some a, some b => (a == b - 1) && conf x y
    | _, _, _, _ => false
theorem fnd_zero {l : List Actn} {lv : List Int} {k : Nat} {b : Int} (h : lv[k]? = some b) : fnd l lv k 0 = (b == 0) := by simp [fnd, h]
theorem fnd_step {l : List Actn} {lv : List Int} {k j : Nat} {x y : Actn} {a b : Int} (hx : l[j]? = some x) (hy : l[k]? = some y) (ha : lv[j]? = some a) (hb : lv[k]? = some b) : fnd l lv k (j + 1) = (fnd l lv k j || ((a == b - 1) && conf x y)) := by simp [fnd, hx, hy, ha, hb]
theorem fnd_mono {l : List Actn} {lv : List Int} {k : Nat} {i : Nat} (h : fnd l lv k i = true) : ∀ j, i ≤ j → fnd l lv k j = true
  | 0, hj => by have : i = 0 := by omega
                subst this; exact h
  | j + 1, hj => by
    by_cases he : i = j + 1
    · subst he; exact h
    · have := fnd_mono h j (by omega)
      simp [fnd, this]
theorem fnd_all {l : List Actn} {n k : Nat} (hk : k < n) (hl : n ≤ l.length) : fnd l (lvlTo l n) k k = true := by
  have hg := lvlTo_get l hk
  rcases lvlAt_has (l := l) (out := lvlTo l k) (k := k) k with h | ⟨j, x, y, o, hj, hx, hy, ho, hc, he⟩
  · exact fnd_mono (i := 0) (by rw [fnd_zero hg, h]; rfl) k (Nat.zero_le _)
  · rw [lvlTo_low l (Nat.le_of_lt hk) hj] at ho
    refine fnd_mono (i := j + 1) ?_ k (by omega)
    rw [fnd_step hx hy ho hg, hc]
    have : (o == lvlAt l (lvlTo l k) k k - 1) = true := by simp; omega
    rw [this]; simp
set_option maxHeartbeats 1000000 in
theorem sameInts_same (l : List Int) (v v' : Value) (w : World) (h : SL (RF encI) 1 w v l) (h' : SL (RF encI) 1 w v' l) :
    Calls Try.prog 13 #[v, v'] w fun e w' => e = .returned (.bool true) ∧ Up w w' := by
  obtain ⟨a, cap, rfl, hlen, hc⟩ := h.open
  obtain ⟨a', cap', rfl, _, hc'⟩ := h'.open
  go_enter Try.func13, Try.ntmps13
  go_wp2_with fail
  go_loopw [5] (fun s5 wr => ∃ (k : Nat), s5 = .int .i64 k ∧ k ≤ l.length ∧ Up w wr) (fun s5 _ => l.length - (intOf s5).toNat)
  case atStart => exact ⟨0, rfl, Nat.zero_le _, .of (Ext.refl _)⟩
  case round =>
    obtain ⟨k, rfl, hk, ⟨z, rfl⟩⟩ := hrel
    by_cases hlt : k < l.length
    · obtain ⟨x, hxk⟩ := getElem?_some_of_lt hlt
      obtain ⟨b, off, rfl, hb, hcc⟩ := hc k x hxk
      obtain ⟨b', off', rfl, hb', hdd⟩ := hc' k x hxk
      have c0 : w.cell? ⟨b, off + k, none⟩ = some (.int .i64 x) := by have := hcc 0 _ rfl; simpa using this
      have d0 : w.cell? ⟨b', off' + k, none⟩ = some (.int .i64 x) := by have := hdd 0 _ rfl; simpa using this
      have k0 : (0 : Int) ≤ (k : Int) := by omega
      clear hc hcc hc' hdd hxk
      go_wp2_with fail
      (refine wp_region_up (by kernel_rfl) (by kernel_rfl) ?_; (repeat (go_big_quiet_step (fail))); refine wpQuiet_nil ?_; intro _ hw'; obtain ⟨zq, hw''⟩ := hw'; subst hw'')
      go_wp2_with fail
      go_roundw
      case rel => exact ⟨k + 1, by go_num, by omega, (.of (by repeat (first | (with_reducible exact Ext.refl _) | (with_reducible refine Ext.up ?_ _) | (with_reducible refine Ext.alloc ?_ _) | (with_reducible refine Ext.drew ?_) | (with_reducible refine Ext.setRow ?_ (by first | exact LeS.le | exact LeS.add _ | (simp; done) | (simp; omega)) _) | (with_reducible refine Ext.setCell ?_ (by first | exact LeS.le | exact LeS.add _ | (simp; done) | (simp; omega)) _))))⟩
      case measure => simp [intOf]; omega
    · go_wp2_with fail
      go_ret
      exact ⟨rfl, z, rfl⟩
set_option maxRecDepth 100000 in
theorem drawLevelsOf_any (bs : List Int) (v : Value) (w : World) (h : SL (RF encU) 1 w v bs) (hb : ∀ b ∈ bs, 0 ≤ b ∧ b ≤ 255) :
    Calls Try.prog 11 #[v] w fun e w' => ∃ v' l, e = .returned v' ∧ Up w w' ∧ l.length ≤ 11 ∧ Own Actn.enc 32 4 w.heap.size w' v' l := by
  have H := Lib.hid h; clear h
  go_enter Try.func11, Try.ntmps11
  go_wp2_with fail
  refine (open_any bs v _ H.out hb).mono ?_; rintro e w' ⟨rb, rfl, ⟨z0, rfl⟩, hr⟩
  have H0 := Lib.hid hr
  have Hold := Lib.hid hr.old
  clear hr
  go_wp2_with fail
  refine (actions_any _ _ rb _ 9 H0.out (by omega) (by omega) (by omega)).mono ?_; rintro e w' ⟨y, l, rfl, hl, _, _, ⟨z1, rfl⟩, hr, ho⟩
  have E : Ext w z1.val := Ext.upR z0.ext Hold.out z1
  go_wp2_with fail
  go_ret
  exact ⟨_, l, rfl, .of E, hl, ho.lo z0.ext.size⟩
end Go.Proofs.Ytldmigmnbmnaiaa
