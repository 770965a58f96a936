/- Plain ground: a slice made by a callee stays behind stores into older blocks. Walks: sums. Walks: FnExactBlockSum: sums of blocks. -/
import Derived.Test.YtknohbdhbjppjaaGPVTop06
import Derived.Test.YtknohbdhbjppjaaGPVTop07
import Derived.Test.YtknohbdhbjppjaaGPVTop01
import Derived.Test.YtknohbdhbjppjaaGPVTop02
import Derived.StillTailTactics
set_option linter.unusedSimpArgs false
set_option linter.unusedVariables false
namespace Go.Proofs.Ytknohbdhbjppjaa
open Go Go.RowKit Go.Proofs

theorem grownBy_set (w : World) (a : Addr) (u : Value) : w.grownBy (w.setCell a u) (some a.block) := by
  refine ⟨rfl, rfl, rfl, by simp [World.setCell], fun k hk hne => ?_⟩
  have : a.block ≠ k := fun e => hne (by rw [e])
  simp [World.setCell, Array.getElem?_modify, this]
theorem Own.setOld {α : Type} {enc : α → List Value} {e sz lo : Nat} {w : World} {v : Value} {l : List α} (h : Own enc e sz lo w v l) (a : Addr) (u : Value) (hlt : a.block < lo) : Own enc e sz lo (w.setCell a u) v l := by
  refine h.kept (grownBy_set w a u) ?_
  cases hv : v.ownBlock with
  | none => exact .inl rfl
  | some k =>
    right; intro e
    have h1 := (World.ownsRow.lt h k hv).1
    injection e with e; omega
set_option maxHeartbeats 1000000 in
theorem toBlock_any (b : Blk) (l : List Actn) (v : Value) (w : World) (h : SL (RF Actn.enc) 4 w v l) (hn : l.length ≤ 1048576) : Calls Try.prog 54 #[.agg #[.int .i64 b.bf, .int .i64 b.ht, .int .i64 b.vw, v, .int .i64 b.rt, .int .i64 b.ef]] w fun e w' => ∃ v', e = .returned (.agg #[.int .i64 b.bf, .int .i64 b.ht, .int .i64 b.vw, v', .int .i64 b.rt, .int .i64 b.ef]) ∧ Up w w' ∧ SL (RF Actn.enc) 4 w' v' l := by
  have hs := h
  obtain ⟨p, cap, rfl, _, _⟩ := h.open
  have Hs := Lib.hid hs; clear h hs
  go_enter Try.func54, Try.ntmps54
  go_wp2_with fail
  refine (toActionS_any l _ _ (Hs.out.up (by repeat (first | exact Ext.refl _ | refine Ext.up ?_ _ | refine Ext.alloc ?_ _ | refine Ext.drew ?_ | refine Ext.setRow ?_ (by first | (dsimp only; omega) | exact LeS.le | exact LeS.add _ | (simp; done) | (simp; omega)) _ | refine Ext.setCell ?_ (by first | (dsimp only; omega) | exact LeS.le | exact LeS.add _ | (simp; done) | (simp; omega)) _))) hn).mono ?_; rintro e w' ⟨v1, rfl, ⟨z1, rfl⟩, ho1⟩
  obtain ⟨p1, cap1, hv1, _, _⟩ := (ho1.sl Actn.enc_length).open
  subst hv1
  have Ho := Lib.hid ho1; clear ho1
  go_wp2_with fail
  refine bodyPost_ret (v := .agg #[.int .i64 b.bf, .int .i64 b.ht, .int .i64 b.vw, .slice p1 l.length cap1, .int .i64 b.rt, .int .i64 b.ef]) (by simp [results, Try.results54, go_sem]) rfl ?_
  refine ⟨_, rfl, .of ?_, Own.sl Actn.enc_length (Own.setOld (Own.setOld (Own.setOld (Own.setOld (Own.setOld (Own.setOld (Own.setOld (Own.setOld (Own.setOld Ho.out _ _ (by first | (simp; done) | (simp; omega))) _ _ (by first | (simp; done) | (simp; omega))) _ _ (by first | (simp; done) | (simp; omega))) _ _ (by first | (simp; done) | (simp; omega))) _ _ (by first | (simp; done) | (simp; omega))) _ _ (by first | (simp; done) | (simp; omega))) _ _ (by first | (simp; done) | (simp; omega))) _ _ (by first | (simp; done) | (simp; omega))) _ _ (by first | (simp; done) | (simp; omega)))⟩
  repeat (first | (with_reducible refine Ext.setCell ?_ (by first | exact LeS.le | (simp; done) | (simp; omega)) _) | (with_reducible refine Ext.up ?_ _) | (with_reducible refine Ext.alloc ?_ _) | (with_reducible exact Ext.refl _))
end Go.Proofs.Ytknohbdhbjppjaa
namespace Go.Proofs.Ytknohbdhbjppjaa
open Go Go.RowKit Go.Proofs

theorem sumOf1_any (n : Int) (w : World) : Calls Try.prog 167 #[.int .i64 n] w fun e w' => e = .returned (.bool (!inR n 0 2000000)) ∧ w = w' := by
  go_enter Try.func167, Try.ntmps167
  go_wp2_with (go_at_call 168; refine (isSummed_any _ _).mono ?_; rintro e w' ⟨rfl, rfl⟩)
  go_ret
  exact ⟨rfl, rfl⟩
set_option maxHeartbeats 1000000 in
theorem indexSummed_any (l : List Int) (v : Value) (w : World) (h : SL (RF encI) 1 w v l) :
    Calls Try.prog 189 #[v, .func (.func 167) #[] #[]] w fun e w' => ∃ n : Int, e = .returned (.int .i64 n) ∧ decide (0 ≤ n) = !summed l ∧ w = w' := by
  obtain ⟨p, cap, rfl, hlen, hc⟩ := h.open
  clear h
  unfold summed
  go_enter Try.func189, Try.ntmps189
  go_wp2_with fail
  go_loop [5, 8] (fun _ s8 => ∃ (k : Nat), s8 = .int .i64 k ∧ k ≤ l.length ∧ (l.take k).all (fun n => inR n 0 2000000) = true) (fun _ s8 => l.length - (intOf s8).toNat)
  case atStart => exact ⟨0, rfl, Nat.zero_le _, rfl⟩
  case round =>
    obtain ⟨k, rfl, hk, hall⟩ := hrel
    by_cases hlt : k < l.length
    · obtain ⟨x, hxk⟩ := getElem?_some_of_lt hlt
      obtain ⟨b, off, rfl, hb, hcc⟩ := hc k x hxk
      have c0 : w.cell? ⟨b, off + k, none⟩ = some (.int .i64 x) := by have := hcc 0 _ rfl; simpa using this
      have k0 : (0 : Int) ≤ (k : Int) := by omega
      have Hx := Lib.hid hxk; have Hall := Lib.hid hall
      clear hc hcc hxk hall
      have kq := fun w => sumOf1_any x w
      rcases hq : inR x 0 2000000 with _ | _
      · rw [hq] at kq
        go_wp2_with (go_at_call 167; refine (kq _).mono ?_; rintro e w' ⟨rfl, rfl⟩)
        go_ret
        refine ⟨_, rfl, ?_, rfl⟩
        rw [List.all_eq_false.2 ⟨x, List.mem_of_getElem? Hx.out, by simp [hq]⟩]; simp
      · rw [hq] at kq
        go_wp2_with (go_at_call 167; refine (kq _).mono ?_; rintro e w' ⟨rfl, rfl⟩)
        go_round
        case rel => exact ⟨k + 1, by go_num, by omega, by rw [List.take_add_one, Hx.out, List.all_append, Hall.out]; simp [hq]⟩
        case measure => simp [intOf]; omega
    · go_wp2_with fail
      go_ret
      refine ⟨_, rfl, ?_, rfl⟩
      have : l.take k = l := List.take_of_length_le (by omega)
      rw [this] at hall
      rw [hall]; rfl
theorem containsSummed_any (l : List Int) (v : Value) (w : World) (h : SL (RF encI) 1 w v l) :
    Calls Try.prog 166 #[v, .func (.func 167) #[] #[]] w fun e w' => e = .returned (.bool (!summed l)) ∧ w = w' := by
  have H := Lib.hid h; clear h
  go_enter Try.func166, Try.ntmps166
  go_wp2_with (go_at_call 189; refine (indexSummed_any l _ _ H.out).mono ?_; rintro e w' ⟨n, rfl, hn, rfl⟩)
  go_ret
  exact ⟨rfl, rfl⟩
theorem more_any (s n : Int) (w : World) (h0 : 0 ≤ s) (h1 : s ≤ 1000002) (h2 : 0 ≤ n) (h3 : n ≤ 2000000) : Calls Try.prog 169 #[.int .i64 s, .int .i64 n] w fun e w' => e = .returned (.int .i64 (sumStep s n)) ∧ w = w' := by
  unfold sumStep
  go_enter Try.func169, Try.ntmps169
  go_wp2
  go_ret
  exact ⟨rfl, rfl⟩
set_option maxHeartbeats 1000000 in
theorem sumOf_any (tag : Int) (l : List Int) (v : Value) (w : World) (h : SL (RF encI) 1 w v l) :
    Calls Try.prog 131 #[.int .i64 tag, v] w fun e w' => e = .returned (.int .i64 (sumOf tag l)) ∧ Up w w' := by
  have H := Lib.hid h
  obtain ⟨p, cap, rfl, hlen, hc⟩ := h.open
  clear h
  rcases guards2 (inR tag 0 9) (summed l) with h1 | ⟨h1, h2⟩ | ⟨h1, h2⟩
  · rw [sumOf_tag h1]
    go_enter Try.func131, Try.ntmps131
    go_wp2_with (go_at_call 89; refine (in_any _ _ _ _).mono ?_; rintro e w' ⟨rfl, rfl⟩)
    go_ret
    exact ⟨rfl, (.of (by repeat (first | exact Ext.refl _ | refine Ext.up ?_ _ | refine Ext.alloc ?_ _ | refine Ext.drew ?_ | refine Ext.setRow ?_ (by first | (dsimp only; omega) | exact LeS.le | exact LeS.add _ | (simp; done) | (simp; omega)) _ | refine Ext.setCell ?_ (by first | (dsimp only; omega) | exact LeS.le | exact LeS.add _ | (simp; done) | (simp; omega)) _)))⟩
  · rw [sumOf_no h2]
    go_enter Try.func131, Try.ntmps131
    go_wp2_with (first | (go_at_call 89; refine (in_any _ _ _ _).mono ?_; rintro e w' ⟨rfl, rfl⟩) | (go_at_call 166; refine (containsSummed_any l _ _ H.out).mono ?_; rintro e w' ⟨rfl, rfl⟩))
    go_ret
    exact ⟨rfl, (.of (by repeat (first | exact Ext.refl _ | refine Ext.up ?_ _ | refine Ext.alloc ?_ _ | refine Ext.drew ?_ | refine Ext.setRow ?_ (by first | (dsimp only; omega) | exact LeS.le | exact LeS.add _ | (simp; done) | (simp; omega)) _ | refine Ext.setCell ?_ (by first | (dsimp only; omega) | exact LeS.le | exact LeS.add _ | (simp; done) | (simp; omega)) _)))⟩
  obtain ⟨t0, t9⟩ := inR_iff.1 h1
  rw [sumOf_yes t0 t9 h2]
  go_enter Try.func131, Try.ntmps131
  go_wp2_with (first | (go_at_call 89; refine (in_any _ _ _ _).mono ?_; rintro e w' ⟨rfl, rfl⟩) | (go_at_call 166; refine (containsSummed_any l _ _ H.out).mono ?_; rintro e w' ⟨rfl, rfl⟩))
  have H2 := Lib.hid h2; clear h1 h2
  go_loop [5, 7, 19] (fun s5 _ s19 => ∃ k : Nat, s19 = .int .i64 k ∧ s5 = .int .i64 (sumL (17 + tag) (l.take k)) ∧ k ≤ l.length) (fun _ _ s19 => l.length - (intOf s19).toNat)
  case atStart => exact ⟨0, rfl, rfl, Nat.zero_le _⟩
  case round =>
    obtain ⟨k, rfl, rfl, hk⟩ := hrel
    by_cases hlt : k < l.length
    · obtain ⟨x, hxk⟩ := getElem?_some_of_lt hlt
      obtain ⟨b, off, rfl, hb, hcc⟩ := hc k x hxk
      have c0 : w.cell? ⟨b, off + k, none⟩ = some (.int .i64 x) := by have := hcc 0 _ rfl; simpa using this
      obtain ⟨s0, s1⟩ := sumTo_in t0 t9 (l.take k)
      obtain ⟨x0, x1⟩ := summed_at H2.out hxk
      have Hs := Lib.hid (sumL_snoc (17 + tag) hxk)
      clear hc hcc hxk
      go_wp2_with (go_at_call 169; refine (more_any _ _ _ s0 (by omega) x0 x1).mono ?_; rintro e w' ⟨rfl, rfl⟩)
      go_round
      case rel => exact ⟨k + 1, by go_num, by rw [Hs.out], by omega⟩
      case measure => simp [intOf]; omega
    · go_wp2_with fail
      go_ret
      obtain rfl : k = l.length := by omega
      rw [List.take_length]
      exact ⟨rfl, (.of (by repeat (first | exact Ext.refl _ | refine Ext.up ?_ _ | refine Ext.alloc ?_ _ | refine Ext.drew ?_ | refine Ext.setRow ?_ (by first | (dsimp only; omega) | exact LeS.le | exact LeS.add _ | (simp; done) | (simp; omega)) _ | refine Ext.setCell ?_ (by first | (dsimp only; omega) | exact LeS.le | exact LeS.add _ | (simp; done) | (simp; omega)) _)))⟩
set_option maxHeartbeats 1000000 in
theorem l1Sum_any (tag : Int) (l : List Int) (v : Value) (w : World) (h : SL (RF encI) 1 w v l) (t0 : 0 ≤ tag) (t9 : tag ≤ 9) (h2 : summed l = true) :
    Calls Try.prog 149 #[.int .i64 tag, v] w fun e w' => e = .returned (.int .i64 (sumL (17 + tag) l)) ∧ w = w' := by
  obtain ⟨p, cap, rfl, hlen, hc⟩ := h.open
  have H2 := Lib.hid h2
  clear h h2
  go_enter Try.func149, Try.ntmps149
  go_wp2_with fail
  go_loop [5, 6] (fun s5 s6 => ∃ k : Nat, s6 = .int .i64 k ∧ s5 = .int .i64 (sumL (17 + tag) (l.take k)) ∧ k ≤ l.length) (fun _ s6 => l.length - (intOf s6).toNat)
  case atStart => exact ⟨0, rfl, rfl, Nat.zero_le _⟩
  case round =>
    obtain ⟨k, rfl, rfl, hk⟩ := hrel
    by_cases hlt : k < l.length
    · obtain ⟨x, hxk⟩ := getElem?_some_of_lt hlt
      obtain ⟨b, off, rfl, hb, hcc⟩ := hc k x hxk
      have c0 : w.cell? ⟨b, off + k, none⟩ = some (.int .i64 x) := by have := hcc 0 _ rfl; simpa using this
      obtain ⟨s0, s1⟩ := sumTo_in t0 t9 (l.take k)
      obtain ⟨x0, x1⟩ := summed_at H2.out hxk
      have hs := sumL_snoc (17 + tag) hxk
      unfold sumStep at hs
      have Hs := Lib.hid hs
      clear hc hcc hxk hs
      go_wp2_with fail
      go_round
      case rel => exact ⟨k + 1, by go_num, by rw [Hs.out], by omega⟩
      case measure => simp [intOf]; omega
    · go_wp2_with fail
      go_ret
      obtain rfl : k = l.length := by omega
      rw [List.take_length]
      exact ⟨rfl, rfl⟩
end Go.Proofs.Ytknohbdhbjppjaa
namespace Go.Proofs.Ytknohbdhbjppjaa
open Go Go.RowKit Go.Proofs

def Blk.head (b : Blk) (n : Nat) : List Int := [b.bf, b.ht, b.vw, (n : Int)]
def Blk.nums (b : Blk) (l : List Actn) : List Int := (b.head l.length ++ aNums l) ++ [b.rt, b.ef]
theorem Blk.nums_summed {b : Blk} {l : List Actn} (h : b.okL l = true) : summed (b.nums l) = true := by
  simp only [Blk.okL, Bool.and_eq_true, inR_iff] at h
  obtain ⟨h1, h2, h3, h4, h5, h6⟩ := h
  have hl := actsOk_len h6
  refine summed_append (summed_append (summed_iff.2 ?_) (aNums_summed fun x hx => ?_)) (summed_iff.2 ?_)
  · intro n hn; simp [Blk.head] at hn; omega
  · obtain ⟨i, hi⟩ := List.getElem?_of_mem hx; exact actsOk_at h6 hi
  · intro n hn; simp at hn; omega
def bsum (b : Blk) (l : List Actn) : Int := if b.okL l = true then sumL 22 (b.nums l) else -1
theorem bsum_no {b : Blk} {l : List Actn} (h : b.okL l = false) : bsum b l = -1 := by unfold bsum; rw [h]; rfl
theorem bsum_yes {b : Blk} {l : List Actn} (h : b.okL l = true) : bsum b l = sumL 22 (b.nums l) := by unfold bsum; rw [h]; rfl
theorem Blk.okL_acts {b : Blk} {l : List Actn} (h : b.okL l = true) : actsOk l = true := by
  simp only [Blk.okL, Bool.and_eq_true] at h; exact h.2.2.2.2.2
set_option maxRecDepth 100000 in
set_option maxHeartbeats 2000000 in
theorem iBlockSum_any (b : Blk) (l : List Actn) (v : Value) (w : World) (h : SL (RF Actn.enc) 4 w v l) :
    Calls Try.prog 111 #[.agg #[.int .i64 b.bf, .int .i64 b.ht, .int .i64 b.vw, v, .int .i64 b.rt, .int .i64 b.ef]] w fun e w' => e = .returned (.int .i64 (bsum b l)) ∧ Up w w' := by
  have hs := h
  obtain ⟨p, cap, rfl, hlen, hc⟩ := h.open
  have Hs := Lib.hid hs; clear h hs
  rcases hok : b.okL l with _ | _
  · rw [bsum_no hok]
    have kz := fun w h => iBlockValid_any b l (.slice p l.length cap) w h
    rw [hok] at kz
    go_enter Try.func111, Try.ntmps111
    go_wp2_with (go_at_call 114; refine (kz _ (Hs.out.up (by repeat (first | exact Ext.refl _ | refine Ext.up ?_ _ | refine Ext.alloc ?_ _ | refine Ext.drew ?_ | refine Ext.setRow ?_ (by first | (dsimp only; omega) | exact LeS.le | exact LeS.add _ | (simp; done) | (simp; omega)) _ | refine Ext.setCell ?_ (by first | (dsimp only; omega) | exact LeS.le | exact LeS.add _ | (simp; done) | (simp; omega)) _)))).mono ?_; rintro e w' ⟨rfl, z0, rfl⟩)
    go_ret
    exact ⟨rfl, (.of (by repeat (first | exact Ext.refl _ | refine Ext.up ?_ _ | refine Ext.alloc ?_ _ | refine Ext.drew ?_ | refine Ext.setRow ?_ (by first | (dsimp only; omega) | exact LeS.le | exact LeS.add _ | (simp; done) | (simp; omega)) _ | refine Ext.setCell ?_ (by first | (dsimp only; omega) | exact LeS.le | exact LeS.add _ | (simp; done) | (simp; omega)) _)))⟩
  have hl10 := actsOk_len (Blk.okL_acts hok)
  have Hsum := Lib.hid (Blk.nums_summed hok)
  have Hfin := Lib.hid ((bsum_yes hok).trans (sumOf_yes (tag := 5) (by decide) (by decide) (Blk.nums_summed hok)).symm)
  have kz := fun w h => iBlockValid_any b l (.slice p l.length cap) w h
  rw [hok] at kz
  have Hok := Lib.hid hok; clear hok
  go_enter Try.func111, Try.ntmps111
  go_wp2_with (go_at_call 114; refine (kz _ (Hs.out.up (by repeat (first | exact Ext.refl _ | refine Ext.up ?_ _ | refine Ext.alloc ?_ _ | refine Ext.drew ?_ | refine Ext.setRow ?_ (by first | (dsimp only; omega) | exact LeS.le | exact LeS.add _ | (simp; done) | (simp; omega)) _ | refine Ext.setCell ?_ (by first | (dsimp only; omega) | exact LeS.le | exact LeS.add _ | (simp; done) | (simp; omega)) _)))).mono ?_; rintro e w' ⟨rfl, z0, rfl⟩)
  go_loopw [3, 5, 22] (fun s3 _ s22 wr => ∃ k : Nat, s22 = .int .i64 k ∧ k ≤ l.length ∧ Up (w.alloc (.cells #[.int .i64 b.bf, .int .i64 b.ht, .int .i64 b.vw, .slice p l.length cap, .int .i64 b.rt, .int .i64 b.ef] 26)) wr ∧ Own encI 3 1 (w.alloc (.cells #[.int .i64 b.bf, .int .i64 b.ht, .int .i64 b.vw, .slice p l.length cap, .int .i64 b.rt, .int .i64 b.ef] 26)).heap.size wr s3 (b.head l.length ++ aNums (l.take k))) (fun _ _ s22 _ => l.length - (intOf s22).toNat)
  case atStart => exact ⟨0, rfl, Nat.zero_le _, (.of (by repeat (first | exact Ext.refl _ | refine Ext.up ?_ _ | refine Ext.alloc ?_ _ | refine Ext.drew ?_ | refine Ext.setRow ?_ (by first | (dsimp only; omega) | exact LeS.le | exact LeS.add _ | (simp; done) | (simp; omega)) _ | refine Ext.setCell ?_ (by first | (dsimp only; omega) | exact LeS.le | exact LeS.add _ | (simp; done) | (simp; omega)) _))), Own.lit rfl LeS.le (by simp [Blk.head, aNums]) (by simp [Blk.head, aNums, encI]) encI_length (by simp [Blk.head, aNums])⟩
  case round =>
    obtain ⟨k, rfl, hk, ⟨z, rfl⟩, hown⟩ := hrel
    by_cases hlt : k < l.length
    · obtain ⟨x, hxk⟩ := getElem?_some_of_lt hlt
      obtain ⟨g, off, hp, hb, _⟩ := hc k x hxk
      obtain ⟨c0, c1, c2, c3⟩ := acell hc hp hxk
      subst hp
      have Hx := Lib.hid (aNums_snoc hxk); have Hown := Lib.hid hown
      have hle : (b.head l.length ++ aNums (l.take k)).length ≤ 4 + 4 * k := by rw [List.length_append, aNums_length, List.length_take]; simp [Blk.head]; omega
      have Hle := Lib.hid hle
      clear hc hxk hown hle
      go_wp2_with (at_builtin; refine wpList_pushL fI rfl (.tmp 26) (.tmp 35) rfl encI encI_length _ [x.kind, x.src, x.dst, x.amt] (b.head l.length ++ aNums (l.take k)) rfl (Hown.out.up (by repeat (first | exact Ext.refl _ | refine Ext.up ?_ _ | refine Ext.alloc ?_ _ | refine Ext.drew ?_ | refine Ext.setRow ?_ (by first | (dsimp only; omega) | exact LeS.le | exact LeS.add _ | (simp; done) | (simp; omega)) _ | refine Ext.setCell ?_ (by first | (dsimp only; omega) | exact LeS.le | exact LeS.add _ | (simp; done) | (simp; omega)) _))) (by repeat (first | exact Ext.refl _ | refine Ext.up ?_ _ | refine Ext.alloc ?_ _ | refine Ext.drew ?_ | refine Ext.setRow ?_ (by first | (dsimp only; omega) | exact LeS.le | exact LeS.add _ | (simp; done) | (simp; omega)) _ | refine Ext.setCell ?_ (by first | (dsimp only; omega) | exact LeS.le | exact LeS.add _ | (simp; done) | (simp; omega)) _)) rfl rfl (by go_simp) rfl (oneIs _) (by have := Hle.out; simp at this ⊢; omega) (by have := Hle.out; simp at this ⊢; omega) ?_; intro v1 z1 hown1)
      have hown2 := Lib.hid hown1; clear hown1
      go_wp2_with fail
      go_roundw
      case rel => exact ⟨k + 1, by go_num, by omega, (.of (by repeat (first | exact Ext.refl _ | refine Ext.up ?_ _ | refine Ext.alloc ?_ _ | refine Ext.drew ?_ | refine Ext.setRow ?_ (by first | (dsimp only; omega) | exact LeS.le | exact LeS.add _ | (simp; done) | (simp; omega)) _ | refine Ext.setCell ?_ (by first | (dsimp only; omega) | exact LeS.le | exact LeS.add _ | (simp; done) | (simp; omega)) _))), by rw [Hx.out, ← List.append_assoc]; exact hown2.out⟩
      case measure => simp [intOf]; omega
    · obtain rfl : k = l.length := by omega
      rw [List.take_length] at hown
      have Hown := Lib.hid hown
      have hle : (b.head l.length ++ aNums l).length ≤ 4 + 4 * 10 := by rw [List.length_append, aNums_length]; simp [Blk.head]; omega
      have Hle := Lib.hid hle
      clear hc hown hle
      go_wp2_with (at_builtin; refine wpList_pushL fI rfl (.tmp 38) (.tmp 43) rfl encI encI_length _ [b.rt, b.ef] (b.head l.length ++ aNums l) rfl (Hown.out.up (by repeat (first | exact Ext.refl _ | refine Ext.up ?_ _ | refine Ext.alloc ?_ _ | refine Ext.drew ?_ | refine Ext.setRow ?_ (by first | (dsimp only; omega) | exact LeS.le | exact LeS.add _ | (simp; done) | (simp; omega)) _ | refine Ext.setCell ?_ (by first | (dsimp only; omega) | exact LeS.le | exact LeS.add _ | (simp; done) | (simp; omega)) _))) (by repeat (first | exact Ext.refl _ | refine Ext.up ?_ _ | refine Ext.alloc ?_ _ | refine Ext.drew ?_ | refine Ext.setRow ?_ (by first | (dsimp only; omega) | exact LeS.le | exact LeS.add _ | (simp; done) | (simp; omega)) _ | refine Ext.setCell ?_ (by first | (dsimp only; omega) | exact LeS.le | exact LeS.add _ | (simp; done) | (simp; omega)) _)) rfl rfl (by go_simp) rfl (oneIs _) (by have := Hle.out; simp at this ⊢; omega) (by have := Hle.out; simp at this ⊢; omega) ?_; intro v1 z1 hown1)
      have hown2 := Lib.hid hown1; clear hown1
      go_wp2_with (go_at_call 131; refine (sumOf_any 5 (b.nums l) _ _ (hown2.out.sl encI_length)).mono ?_; rintro e w' ⟨rfl, z2, rfl⟩)
      go_ret
      exact ⟨by rw [Hfin.out]; rfl, (.of (by repeat (first | exact Ext.refl _ | refine Ext.up ?_ _ | refine Ext.alloc ?_ _ | refine Ext.drew ?_ | refine Ext.setRow ?_ (by first | (dsimp only; omega) | exact LeS.le | exact LeS.add _ | (simp; done) | (simp; omega)) _ | refine Ext.setCell ?_ (by first | (dsimp only; omega) | exact LeS.le | exact LeS.add _ | (simp; done) | (simp; omega)) _)))⟩
set_option maxRecDepth 100000 in
set_option maxHeartbeats 2000000 in
theorem sBlockSum_any (b : Blk) (l : List Actn) (v : Value) (w : World) (h : SL (RF Actn.enc) 4 w v l) :
    Calls Try.prog 107 #[.agg #[.int .i64 b.bf, .int .i64 b.ht, .int .i64 b.vw, v, .int .i64 b.rt, .int .i64 b.ef]] w fun e w' => e = .returned (.int .i64 (bsum b l)) ∧ Up w w' := by
  have hs := h
  obtain ⟨p, cap, rfl, hlen, hc⟩ := h.open
  have Hs := Lib.hid hs; clear h hs
  rcases hok : b.okL l with _ | _
  · rw [bsum_no hok]
    have kz := fun w h => sBlockValid_any b l (.slice p l.length cap) w h
    rw [hok] at kz
    go_enter Try.func107, Try.ntmps107
    go_wp2_with (go_at_call 105; refine (kz _ (Hs.out.up (by repeat (first | exact Ext.refl _ | refine Ext.up ?_ _ | refine Ext.alloc ?_ _ | refine Ext.drew ?_ | refine Ext.setRow ?_ (by first | (dsimp only; omega) | exact LeS.le | exact LeS.add _ | (simp; done) | (simp; omega)) _ | refine Ext.setCell ?_ (by first | (dsimp only; omega) | exact LeS.le | exact LeS.add _ | (simp; done) | (simp; omega)) _)))).mono ?_; rintro e w' ⟨rfl, z0, rfl⟩)
    go_ret
    exact ⟨rfl, (.of (by repeat (first | exact Ext.refl _ | refine Ext.up ?_ _ | refine Ext.alloc ?_ _ | refine Ext.drew ?_ | refine Ext.setRow ?_ (by first | (dsimp only; omega) | exact LeS.le | exact LeS.add _ | (simp; done) | (simp; omega)) _ | refine Ext.setCell ?_ (by first | (dsimp only; omega) | exact LeS.le | exact LeS.add _ | (simp; done) | (simp; omega)) _)))⟩
  have hl10 := actsOk_len (Blk.okL_acts hok)
  have Hsum := Lib.hid (Blk.nums_summed hok)
  have Hfin := Lib.hid (bsum_yes hok)
  have kz := fun w h => sBlockValid_any b l (.slice p l.length cap) w h
  rw [hok] at kz
  have Hok := Lib.hid hok; clear hok
  go_enter Try.func107, Try.ntmps107
  go_wp2_with (go_at_call 105; refine (kz _ (Hs.out.up (by repeat (first | exact Ext.refl _ | refine Ext.up ?_ _ | refine Ext.alloc ?_ _ | refine Ext.drew ?_ | refine Ext.setRow ?_ (by first | (dsimp only; omega) | exact LeS.le | exact LeS.add _ | (simp; done) | (simp; omega)) _ | refine Ext.setCell ?_ (by first | (dsimp only; omega) | exact LeS.le | exact LeS.add _ | (simp; done) | (simp; omega)) _)))).mono ?_; rintro e w' ⟨rfl, z0, rfl⟩)
  go_loopw [3, 4] (fun s3 s4 wr => ∃ k : Nat, s4 = .int .i64 k ∧ k ≤ l.length ∧ Up (w.alloc (.cells #[.int .i64 b.bf, .int .i64 b.ht, .int .i64 b.vw, .slice p l.length cap, .int .i64 b.rt, .int .i64 b.ef] 26)) wr ∧ Own encI 3 1 (w.alloc (.cells #[.int .i64 b.bf, .int .i64 b.ht, .int .i64 b.vw, .slice p l.length cap, .int .i64 b.rt, .int .i64 b.ef] 26)).heap.size wr s3 (b.head l.length ++ aNums (l.take k))) (fun _ s4 _ => l.length - (intOf s4).toNat)
  case atStart => exact ⟨0, rfl, Nat.zero_le _, (.of (by repeat (first | exact Ext.refl _ | refine Ext.up ?_ _ | refine Ext.alloc ?_ _ | refine Ext.drew ?_ | refine Ext.setRow ?_ (by first | (dsimp only; omega) | exact LeS.le | exact LeS.add _ | (simp; done) | (simp; omega)) _ | refine Ext.setCell ?_ (by first | (dsimp only; omega) | exact LeS.le | exact LeS.add _ | (simp; done) | (simp; omega)) _))), Own.lit rfl LeS.le (by simp [Blk.head, aNums]) (by simp [Blk.head, aNums, encI]) encI_length (by simp [Blk.head, aNums])⟩
  case round =>
    obtain ⟨k, rfl, hk, ⟨z, rfl⟩, hown⟩ := hrel
    by_cases hlt : k < l.length
    · obtain ⟨x, hxk⟩ := getElem?_some_of_lt hlt
      obtain ⟨g, off, hp, hb, _⟩ := hc k x hxk
      obtain ⟨c0, c1, c2, c3⟩ := acell hc hp hxk
      subst hp
      have k0 : (0 : Int) ≤ (k : Int) := by omega
      have k1 : (k : Int) < l.length := by omega
      have Hx := Lib.hid (aNums_snoc hxk); have Hown := Lib.hid hown
      have hle : (b.head l.length ++ aNums (l.take k)).length ≤ 4 + 4 * k := by rw [List.length_append, aNums_length, List.length_take]; simp [Blk.head]; omega
      have Hle := Lib.hid hle
      clear hc hxk hown hle
      go_wp2_with fail
      (go_region_held3 (fun w' => (∀ n i, ∀ [LtS n (w.alloc (.cells #[.int .i64 b.bf, .int .i64 b.ht, .int .i64 b.vw, .slice (some ⟨g, off, none⟩) l.length cap, .int .i64 b.rt, .int .i64 b.ef] 26))], w'.cell? ⟨n, i, none⟩ = World.cell? (w.alloc (.cells #[.int .i64 b.bf, .int .i64 b.ht, .int .i64 b.vw, .slice (some ⟨g, off, none⟩) l.length cap, .int .i64 b.rt, .int .i64 b.ef] 26)) ⟨n, i, none⟩) ∧ Ext (w.alloc (.cells #[.int .i64 b.bf, .int .i64 b.ht, .int .i64 b.vw, .slice (some ⟨g, off, none⟩) l.length cap, .int .i64 b.rt, .int .i64 b.ef] 26)) w') ((refine S_of_ext ?_; (repeat (first | exact Ext.refl _ | refine Ext.up ?_ _ | refine Ext.alloc ?_ _ | refine Ext.drew ?_ | refine Ext.setRow ?_ (by first | (dsimp only; omega) | exact LeS.le | exact LeS.add _ | (simp; done) | (simp; omega)) _ | refine Ext.setCell ?_ (by first | (dsimp only; omega) | exact LeS.le | exact LeS.add _ | (simp; done) | (simp; omega)) _)); done)) (((refine step_pushL fI (by rfl) (.tmp 25) (.tmp 50) (by rfl) encI encI_length _ [x.kind, x.src, x.dst, x.amt] (b.head l.length ++ aNums (l.take k)) (by rfl) (Hown.out.up (by repeat (first | exact Ext.refl _ | refine Ext.up ?_ _ | refine Ext.alloc ?_ _ | refine Ext.drew ?_ | refine Ext.setRow ?_ (by first | (dsimp only; omega) | exact LeS.le | exact LeS.add _ | (simp; done) | (simp; omega)) _ | refine Ext.setCell ?_ (by first | (dsimp only; omega) | exact LeS.le | exact LeS.add _ | (simp; done) | (simp; omega)) _))) (by repeat (first | exact Ext.refl _ | refine Ext.up ?_ _ | refine Ext.alloc ?_ _ | refine Ext.drew ?_ | refine Ext.setRow ?_ (by first | (dsimp only; omega) | exact LeS.le | exact LeS.add _ | (simp; done) | (simp; omega)) _ | refine Ext.setCell ?_ (by first | (dsimp only; omega) | exact LeS.le | exact LeS.add _ | (simp; done) | (simp; omega)) _)) (by rfl) (by rfl) (by decide) (by go_simp) (by rfl) (oneIs _) (by have := Hle.out; simp at this ⊢; omega) (by have := Hle.out; simp at this ⊢; omega) ?_; intro v1 z1 hown1))))
      have hown2 := Lib.hid hown1; clear hown1
      go_wp2_with fail
      go_roundw
      case rel => exact ⟨k + 1, by go_num, by omega, (.of (by repeat (first | exact Ext.refl _ | refine Ext.up ?_ _ | refine Ext.alloc ?_ _ | refine Ext.drew ?_ | refine Ext.setRow ?_ (by first | (dsimp only; omega) | exact LeS.le | exact LeS.add _ | (simp; done) | (simp; omega)) _ | refine Ext.setCell ?_ (by first | (dsimp only; omega) | exact LeS.le | exact LeS.add _ | (simp; done) | (simp; omega)) _))), by rw [Hx.out, ← List.append_assoc]; exact hown2.out⟩
      case measure => simp [intOf]; omega
    · obtain rfl : k = l.length := by omega
      rw [List.take_length] at hown
      have Hown := Lib.hid hown
      have hle : (b.head l.length ++ aNums l).length ≤ 4 + 4 * 10 := by rw [List.length_append, aNums_length]; simp [Blk.head]; omega
      have Hle := Lib.hid hle
      clear hc hown hle
      go_wp2_with (at_builtin; refine wpList_pushL fI rfl (.tmp 52) (.tmp 57) rfl encI encI_length _ [b.rt, b.ef] (b.head l.length ++ aNums l) rfl (Hown.out.up (by repeat (first | exact Ext.refl _ | refine Ext.up ?_ _ | refine Ext.alloc ?_ _ | refine Ext.drew ?_ | refine Ext.setRow ?_ (by first | (dsimp only; omega) | exact LeS.le | exact LeS.add _ | (simp; done) | (simp; omega)) _ | refine Ext.setCell ?_ (by first | (dsimp only; omega) | exact LeS.le | exact LeS.add _ | (simp; done) | (simp; omega)) _))) (by repeat (first | exact Ext.refl _ | refine Ext.up ?_ _ | refine Ext.alloc ?_ _ | refine Ext.drew ?_ | refine Ext.setRow ?_ (by first | (dsimp only; omega) | exact LeS.le | exact LeS.add _ | (simp; done) | (simp; omega)) _ | refine Ext.setCell ?_ (by first | (dsimp only; omega) | exact LeS.le | exact LeS.add _ | (simp; done) | (simp; omega)) _)) rfl rfl (by go_simp) rfl (oneIs _) (by have := Hle.out; simp at this ⊢; omega) (by have := Hle.out; simp at this ⊢; omega) ?_; intro v1 z1 hown1)
      have hown2 := Lib.hid hown1; clear hown1
      go_wp2_with (go_at_call 149; refine (l1Sum_any 5 (b.nums l) _ _ (hown2.out.sl encI_length) (by decide) (by decide) Hsum.out).mono ?_; rintro e w' ⟨rfl, rfl⟩)
      go_ret
      exact ⟨by rw [Hfin.out]; rfl, (.of (by repeat (first | exact Ext.refl _ | refine Ext.up ?_ _ | refine Ext.alloc ?_ _ | refine Ext.drew ?_ | refine Ext.setRow ?_ (by first | (dsimp only; omega) | exact LeS.le | exact LeS.add _ | (simp; done) | (simp; omega)) _ | refine Ext.setCell ?_ (by first | (dsimp only; omega) | exact LeS.le | exact LeS.add _ | (simp; done) | (simp; omega)) _)))⟩
end Go.Proofs.Ytknohbdhbjppjaa
