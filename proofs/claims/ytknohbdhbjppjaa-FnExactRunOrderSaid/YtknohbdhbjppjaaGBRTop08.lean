/- Walks: actions: masks, conflicts. Plain ground: a slice made by a callee stays behind stores into older blocks. Walks: sums. Walks: the reference's conflicts. -/
import Derived.Test.YtknohbdhbjppjaaGBRTop07
import Derived.Test.YtknohbdhbjppjaaGBRTop04
import Derived.Test.YtknohbdhbjppjaaGBRTop03
import Derived.Test.YtknohbdhbjppjaaGBRTop01
import Derived.Test.YtknohbdhbjppjaaGBRTop02
set_option linter.unusedSimpArgs false
set_option linter.unusedVariables false
namespace Go.Proofs.Ytknohbdhbjppjaa
open Go Go.RowKit Go.Proofs

theorem mask_any (l : List Int) (v : Value) (w : World) (h : SL (RF encI) 1 w v l) (hr : ∀ n ∈ l, 0 ≤ n ∧ n ≤ 31) :
    Calls Try.prog 163 #[v] w fun e w' => e = .returned (.int .i64 (maskN l)) ∧ w = w' := by
  obtain ⟨a, cap, rfl, hlen, hc⟩ := h.open
  clear h
  go_enter Try.func163, Try.ntmps163
  go_wp2_with fail
  go_loop [3, 5, 8] (fun s3 _ s8 => ∃ (k : Nat), s8 = .int .i64 k ∧ k ≤ l.length ∧ s3 = .int .i64 (maskN (l.take k))) (fun _ _ s8 => l.length - (intOf s8).toNat)
  case atStart => exact ⟨0, rfl, Nat.zero_le _, rfl⟩
  case round =>
    obtain ⟨k, rfl, hk, rfl⟩ := hrel
    by_cases hlt : k < l.length
    · obtain ⟨x, hxk⟩ := getElem?_some_of_lt hlt
      obtain ⟨b, off, rfl, hb, hcc⟩ := hc k x hxk
      have c0 : w.cell? ⟨b, off + k, none⟩ = some (.int .i64 x) := by have := hcc 0 _ rfl; simpa using this
      obtain ⟨hx0, hx1⟩ := hr x (List.mem_of_getElem? hxk)
      have hm := maskN_lt (l.take k) (fun n hn => hr n (List.mem_of_mem_take hn))
      have ht : l.take (k + 1) = l.take k ++ [x] := by rw [List.take_add_one, hxk]; rfl
      have hp0 : ∀ m : Nat, m ≤ 2147483648 → wrap64 (m : Int) = m := fun m hm => IntWalk.wrap64_in _ ⟨by omega, by omega⟩
      have hp : wrap64 (2 ^ x.toNat) = ((2 ^ x.toNat : Nat) : Int) := by
        rw [← hp0 _ (Nat.pow_le_pow_right (n := 2) (by decide) (show x.toNat ≤ 31 by omega))]; simp
      clear hp0
      have hq : 2 ^ x.toNat < 9223372036854775808 := Nat.lt_of_le_of_lt (Nat.pow_le_pow_right (n := 2) (by decide) (show x.toNat ≤ 31 by omega)) (by decide)
      have hor := i64_or_nat (maskN (l.take k)) (2 ^ x.toNat) (by omega) hq
      rw [← hp] at hor
      have e : bits BinOp.or IntKind.i64 (maskN (l.take k)) (wrap64 (2 ^ x.toNat)) = (maskN (l.take (k + 1)) : Int) := by rw [hor, ht, maskN_snoc]
      have E := Lib.hid e
      clear hc hcc hxk hr e hor hp ht hq hm
      go_wp2_with fail
      refine ⟨⟨k + 1, by go_num, by omega, by rw [E.out]⟩, by simp [intOf]; omega⟩
    · go_wp2_with fail
      go_ret
      obtain rfl : k = l.length := by omega
      refine ⟨?_, rfl⟩
      show Ending.returned (.int .i64 (maskN (l.take l.length))) = _
      rw [List.take_length]
set_option maxHeartbeats 2000000 in
theorem conflicts_any (x y : Actn) (w : World) (hx : x.ok = true) (hy : y.ok = true) : Calls Try.prog 127 #[.agg #[.int .i64 x.kind, .int .i64 x.src, .int .i64 x.dst, .int .i64 x.amt], .agg #[.int .i64 y.kind, .int .i64 y.src, .int .i64 y.dst, .int .i64 y.amt]] w fun e w' => e = .returned (.bool (conf x y)) ∧ Up w w' := by
  have key : ((decide ((maskN x.wk &&& (maskN y.rk ||| maskN y.wk) ||| maskN y.wk &&& maskN x.rk : Nat) = 0))) = !conf x y := by
    have nx := fun n hn => (Actn.wk_in hx n hn).1
    have rx := fun n hn => (Actn.rk_in hx n hn).1
    have ny := fun n hn => (Actn.wk_in hy n hn).1
    have ry := fun n hn => (Actn.rk_in hy n hn).1
    have h1 := maskN_and nx ry
    have h2 := maskN_and nx ny
    have h3 := maskN_and ny rx
    have h4 : common y.wk x.rk = common x.rk y.wk := by
      rw [Bool.eq_iff_iff]; simp only [common, List.any_eq_true, List.contains_iff_mem]
      exact ⟨fun ⟨n, a, b⟩ => ⟨n, b, a⟩, fun ⟨n, a, b⟩ => ⟨n, b, a⟩⟩
    rw [Nat.and_or_distrib_left]
    have z1 : (maskN x.wk &&& maskN y.rk = 0) ↔ common x.wk y.rk = false := by rw [← Bool.not_eq_true, ← h1]; simp
    have z2 : (maskN x.wk &&& maskN y.wk = 0) ↔ common x.wk y.wk = false := by rw [← Bool.not_eq_true, ← h2]; simp
    have z3 : (maskN y.wk &&& maskN x.rk = 0) ↔ common y.wk x.rk = false := by rw [← Bool.not_eq_true, ← h3]; simp
    simp only [Nat.or_eq_zero_iff, z1, z2, z3]
    rw [conf, ← h4]
    cases common x.wk y.wk <;> cases common x.wk y.rk <;> cases common y.wk x.rk <;> simp
  have b1 := maskN_lt _ (Actn.rk_in hx)
  have b2 := maskN_lt _ (Actn.wk_in hx)
  have b3 := maskN_lt _ (Actn.rk_in hy)
  have b4 := maskN_lt _ (Actn.wk_in hy)
  have m1 : bits BinOp.or IntKind.i64 (maskN y.rk) (maskN y.wk) = ((maskN y.rk ||| maskN y.wk : Nat) : Int) := i64_or_nat _ _ (by omega) (by omega)
  have c1 : maskN y.rk ||| maskN y.wk < 2 ^ 32 := Nat.or_lt_two_pow (by omega) (by omega)
  have m2 : bits BinOp.and IntKind.i64 (maskN x.wk) ((maskN y.rk ||| maskN y.wk : Nat) : Int) = ((maskN x.wk &&& (maskN y.rk ||| maskN y.wk) : Nat) : Int) := i64_and_nat _ _ (by omega) (by omega)
  have c2 : maskN x.wk &&& (maskN y.rk ||| maskN y.wk) < 2 ^ 32 := Nat.and_lt_two_pow _ c1
  have m3 : bits BinOp.and IntKind.i64 (maskN y.wk) (maskN x.rk) = ((maskN y.wk &&& maskN x.rk : Nat) : Int) := i64_and_nat _ _ (by omega) (by omega)
  have c3 : maskN y.wk &&& maskN x.rk < 2 ^ 32 := Nat.and_lt_two_pow _ (by omega)
  have m4 : bits BinOp.or IntKind.i64 ((maskN x.wk &&& (maskN y.rk ||| maskN y.wk) : Nat) : Int) ((maskN y.wk &&& maskN x.rk : Nat) : Int) = ((maskN x.wk &&& (maskN y.rk ||| maskN y.wk) ||| maskN y.wk &&& maskN x.rk : Nat) : Int) := i64_or_nat _ _ (by omega) (by omega)
  have hfin : (bits BinOp.or IntKind.i64 (bits BinOp.and IntKind.i64 (maskN x.wk) (bits BinOp.or IntKind.i64 (maskN y.rk) (maskN y.wk))) (bits BinOp.and IntKind.i64 (maskN y.wk) (maskN x.rk)) != 0) = conf x y := by
    rw [m1, m2, m3, m4]
    have : conf x y = !(decide ((maskN x.wk &&& (maskN y.rk ||| maskN y.wk) ||| maskN y.wk &&& maskN x.rk : Nat) = 0)) := by rw [key, Bool.not_not]
    rw [this]
    simp only [bne, Bool.not_eq_eq_eq_not, Bool.not_not]
    congr 1
    rw [Bool.eq_iff_iff]
    simp
  have Hfin := Lib.hid hfin
  have rx := Actn.rk_in hx; have wx := Actn.wk_in hx; have ry := Actn.rk_in hy; have wy := Actn.wk_in hy
  have Rx := Lib.hid rx; have Wx := Lib.hid wx; have Ry := Lib.hid ry; have Wy := Lib.hid wy
  clear key b1 b2 b3 b4 m1 c1 m2 c2 m3 c3 m4 hfin rx wx ry wy
  go_enter Try.func127, Try.ntmps127
  go_wp2_with fail
  (refine wp_named ?_; intro W0 hW0; have hI := LtS.via hW0; go_region_held3 (fun w' => (∀ n i, ∀ [LtS n W0], w'.cell? ⟨n, i, none⟩ = W0.cell? ⟨n, i, none⟩) ∧ Ext W0 w') (((try subst hW0); refine S_of_ext ?_; (repeat (first | exact Ext.refl _ | refine Ext.up ?_ _ | refine Ext.alloc ?_ _ | refine Ext.drew ?_ | refine Ext.setRow ?_ (by first | (dsimp only; omega) | exact LeS.le | exact LeS.add _ | (simp; done) | (simp; omega)) _ | refine Ext.setCell ?_ (by first | (dsimp only; omega) | exact LeS.le | exact LeS.add _ | (simp; done) | (simp; omega)) _)); done)) (first | (go_at_call 164; refine (reads_any _ _).mono ?_; rintro e w' ⟨v, rfl, ⟨z, rfl⟩, hown⟩) | (go_at_call 165; refine (writes_any _ _).mono ?_; rintro e w' ⟨v, rfl, ⟨z, rfl⟩, hown⟩) | (go_at_call 163; refine (mask_any _ _ _ (Own.sl encI_length (by assumption)) (by first | exact Rx.out | exact Wx.out | exact Ry.out | exact Wy.out)).mono ?_; rintro e w' ⟨rfl, rfl⟩)))
  go_wp2_with fail
  go_ret
  refine ⟨?_, .of (by subst hW0; repeat (first | exact Ext.refl _ | refine Ext.up ?_ _ | refine Ext.alloc ?_ _ | refine Ext.drew ?_ | refine Ext.setRow ?_ (by first | (dsimp only; omega) | exact LeS.le | exact LeS.add _ | (simp; done) | (simp; omega)) _ | refine Ext.setCell ?_ (by first | (dsimp only; omega) | exact LeS.le | exact LeS.add _ | (simp; done) | (simp; omega)) _))⟩
  exact congrArg (fun b => Ending.returned (.bool b)) Hfin.out
end Go.Proofs.Ytknohbdhbjppjaa
namespace Go.Proofs.Ytknohbdhbjppjaa
open Go Go.RowKit Go.Proofs

theorem grownBy_set (w : World) (a : Addr) (u : Value) : w.grownBy (w.setCell a u) (some a.block) := by
  refine ⟨rfl, rfl, rfl, by simp [World.setCell], fun k hk hne => ?_⟩
  have : a.block ≠ k := fun e => hne (by rw [e])
  simp [World.setCell, Array.getElem?_modify, this]
theorem Own.setOld {α : Type} {enc : α → List Value} {e sz lo : Nat} {w : World} {v : Value} {l : List α} (h : Own enc e sz lo w v l) (a : Addr) (u : Value) (hlt : a.block < lo) : Own enc e sz lo (w.setCell a u) v l := by
  refine h.kept (grownBy_set w a u) ?_
  cases hv : v.ownBlock with
  | none => exact .inl rfl
  | some k =>
    right; intro e
    have h1 := (World.ownsRow.lt h k hv).1
    injection e with e; omega
set_option maxHeartbeats 1000000 in
theorem toBlock_any (b : Blk) (l : List Actn) (v : Value) (w : World) (h : SL (RF Actn.enc) 4 w v l) (hn : l.length ≤ 1048576) : Calls Try.prog 54 #[.agg #[.int .i64 b.bf, .int .i64 b.ht, .int .i64 b.vw, v, .int .i64 b.rt, .int .i64 b.ef]] w fun e w' => ∃ v', e = .returned (.agg #[.int .i64 b.bf, .int .i64 b.ht, .int .i64 b.vw, v', .int .i64 b.rt, .int .i64 b.ef]) ∧ Up w w' ∧ SL (RF Actn.enc) 4 w' v' l := by
  have hs := h
  obtain ⟨p, cap, rfl, _, _⟩ := h.open
  have Hs := Lib.hid hs; clear h hs
  go_enter Try.func54, Try.ntmps54
  go_wp2_with fail
  refine (toActionS_any l _ _ (Hs.out.up (by repeat (first | exact Ext.refl _ | refine Ext.up ?_ _ | refine Ext.alloc ?_ _ | refine Ext.drew ?_ | refine Ext.setRow ?_ (by first | (dsimp only; omega) | exact LeS.le | exact LeS.add _ | (simp; done) | (simp; omega)) _ | refine Ext.setCell ?_ (by first | (dsimp only; omega) | exact LeS.le | exact LeS.add _ | (simp; done) | (simp; omega)) _))) hn).mono ?_; rintro e w' ⟨v1, rfl, ⟨z1, rfl⟩, ho1⟩
  obtain ⟨p1, cap1, hv1, _, _⟩ := (ho1.sl Actn.enc_length).open
  subst hv1
  have Ho := Lib.hid ho1; clear ho1
  go_wp2_with fail
  refine bodyPost_ret (v := .agg #[.int .i64 b.bf, .int .i64 b.ht, .int .i64 b.vw, .slice p1 l.length cap1, .int .i64 b.rt, .int .i64 b.ef]) (by simp [results, Try.results54, go_sem]) rfl ?_
  refine ⟨_, rfl, .of ?_, Own.sl Actn.enc_length (Own.setOld (Own.setOld (Own.setOld (Own.setOld (Own.setOld (Own.setOld (Own.setOld (Own.setOld (Own.setOld Ho.out _ _ (by first | (simp; done) | (simp; omega))) _ _ (by first | (simp; done) | (simp; omega))) _ _ (by first | (simp; done) | (simp; omega))) _ _ (by first | (simp; done) | (simp; omega))) _ _ (by first | (simp; done) | (simp; omega))) _ _ (by first | (simp; done) | (simp; omega))) _ _ (by first | (simp; done) | (simp; omega))) _ _ (by first | (simp; done) | (simp; omega))) _ _ (by first | (simp; done) | (simp; omega)))⟩
  repeat (first | (with_reducible refine Ext.setCell ?_ (by first | exact LeS.le | (simp; done) | (simp; omega)) _) | (with_reducible refine Ext.up ?_ _) | (with_reducible refine Ext.alloc ?_ _) | (with_reducible exact Ext.refl _))
end Go.Proofs.Ytknohbdhbjppjaa
namespace Go.Proofs.Ytknohbdhbjppjaa
open Go Go.RowKit Go.Proofs

theorem sumOf1_any (n : Int) (w : World) : Calls Try.prog 167 #[.int .i64 n] w fun e w' => e = .returned (.bool (!inR n 0 2000000)) ∧ w = w' := by
  go_enter Try.func167, Try.ntmps167
  go_wp2_with (go_at_call 168; refine (isSummed_any _ _).mono ?_; rintro e w' ⟨rfl, rfl⟩)
  go_ret
  exact ⟨rfl, rfl⟩
set_option maxHeartbeats 1000000 in
theorem indexSummed_any (l : List Int) (v : Value) (w : World) (h : SL (RF encI) 1 w v l) :
    Calls Try.prog 189 #[v, .func (.func 167) #[] #[]] w fun e w' => ∃ n : Int, e = .returned (.int .i64 n) ∧ decide (0 ≤ n) = !summed l ∧ w = w' := by
  obtain ⟨p, cap, rfl, hlen, hc⟩ := h.open
  clear h
  unfold summed
  go_enter Try.func189, Try.ntmps189
  go_wp2_with fail
  go_loop [5, 8] (fun _ s8 => ∃ (k : Nat), s8 = .int .i64 k ∧ k ≤ l.length ∧ (l.take k).all (fun n => inR n 0 2000000) = true) (fun _ s8 => l.length - (intOf s8).toNat)
  case atStart => exact ⟨0, rfl, Nat.zero_le _, rfl⟩
  case round =>
    obtain ⟨k, rfl, hk, hall⟩ := hrel
    by_cases hlt : k < l.length
    · obtain ⟨x, hxk⟩ := getElem?_some_of_lt hlt
      obtain ⟨b, off, rfl, hb, hcc⟩ := hc k x hxk
      have c0 : w.cell? ⟨b, off + k, none⟩ = some (.int .i64 x) := by have := hcc 0 _ rfl; simpa using this
      have k0 : (0 : Int) ≤ (k : Int) := by omega
      have Hx := Lib.hid hxk; have Hall := Lib.hid hall
      clear hc hcc hxk hall
      have kq := fun w => sumOf1_any x w
      rcases hq : inR x 0 2000000 with _ | _
      · rw [hq] at kq
        go_wp2_with (go_at_call 167; refine (kq _).mono ?_; rintro e w' ⟨rfl, rfl⟩)
        go_ret
        refine ⟨_, rfl, ?_, rfl⟩
        rw [List.all_eq_false.2 ⟨x, List.mem_of_getElem? Hx.out, by simp [hq]⟩]; simp
      · rw [hq] at kq
        go_wp2_with (go_at_call 167; refine (kq _).mono ?_; rintro e w' ⟨rfl, rfl⟩)
        go_round
        case rel => exact ⟨k + 1, by go_num, by omega, by rw [List.take_add_one, Hx.out, List.all_append, Hall.out]; simp [hq]⟩
        case measure => simp [intOf]; omega
    · go_wp2_with fail
      go_ret
      refine ⟨_, rfl, ?_, rfl⟩
      have : l.take k = l := List.take_of_length_le (by omega)
      rw [this] at hall
      rw [hall]; rfl
theorem containsSummed_any (l : List Int) (v : Value) (w : World) (h : SL (RF encI) 1 w v l) :
    Calls Try.prog 166 #[v, .func (.func 167) #[] #[]] w fun e w' => e = .returned (.bool (!summed l)) ∧ w = w' := by
  have H := Lib.hid h; clear h
  go_enter Try.func166, Try.ntmps166
  go_wp2_with (go_at_call 189; refine (indexSummed_any l _ _ H.out).mono ?_; rintro e w' ⟨n, rfl, hn, rfl⟩)
  go_ret
  exact ⟨rfl, rfl⟩
theorem more_any (s n : Int) (w : World) (h0 : 0 ≤ s) (h1 : s ≤ 1000002) (h2 : 0 ≤ n) (h3 : n ≤ 2000000) : Calls Try.prog 169 #[.int .i64 s, .int .i64 n] w fun e w' => e = .returned (.int .i64 (sumStep s n)) ∧ w = w' := by
  unfold sumStep
  go_enter Try.func169, Try.ntmps169
  go_wp2
  go_ret
  exact ⟨rfl, rfl⟩
set_option maxHeartbeats 1000000 in
theorem sumOf_any (tag : Int) (l : List Int) (v : Value) (w : World) (h : SL (RF encI) 1 w v l) :
    Calls Try.prog 131 #[.int .i64 tag, v] w fun e w' => e = .returned (.int .i64 (sumOf tag l)) ∧ Up w w' := by
  have H := Lib.hid h
  obtain ⟨p, cap, rfl, hlen, hc⟩ := h.open
  clear h
  rcases guards2 (inR tag 0 9) (summed l) with h1 | ⟨h1, h2⟩ | ⟨h1, h2⟩
  · rw [sumOf_tag h1]
    go_enter Try.func131, Try.ntmps131
    go_wp2_with (go_at_call 89; refine (in_any _ _ _ _).mono ?_; rintro e w' ⟨rfl, rfl⟩)
    go_ret
    exact ⟨rfl, (.of (by repeat (first | exact Ext.refl _ | refine Ext.up ?_ _ | refine Ext.alloc ?_ _ | refine Ext.drew ?_ | refine Ext.setRow ?_ (by first | (dsimp only; omega) | exact LeS.le | exact LeS.add _ | (simp; done) | (simp; omega)) _ | refine Ext.setCell ?_ (by first | (dsimp only; omega) | exact LeS.le | exact LeS.add _ | (simp; done) | (simp; omega)) _)))⟩
  · rw [sumOf_no h2]
    go_enter Try.func131, Try.ntmps131
    go_wp2_with (first | (go_at_call 89; refine (in_any _ _ _ _).mono ?_; rintro e w' ⟨rfl, rfl⟩) | (go_at_call 166; refine (containsSummed_any l _ _ H.out).mono ?_; rintro e w' ⟨rfl, rfl⟩))
    go_ret
    exact ⟨rfl, (.of (by repeat (first | exact Ext.refl _ | refine Ext.up ?_ _ | refine Ext.alloc ?_ _ | refine Ext.drew ?_ | refine Ext.setRow ?_ (by first | (dsimp only; omega) | exact LeS.le | exact LeS.add _ | (simp; done) | (simp; omega)) _ | refine Ext.setCell ?_ (by first | (dsimp only; omega) | exact LeS.le | exact LeS.add _ | (simp; done) | (simp; omega)) _)))⟩
  obtain ⟨t0, t9⟩ := inR_iff.1 h1
  rw [sumOf_yes t0 t9 h2]
  go_enter Try.func131, Try.ntmps131
  go_wp2_with (first | (go_at_call 89; refine (in_any _ _ _ _).mono ?_; rintro e w' ⟨rfl, rfl⟩) | (go_at_call 166; refine (containsSummed_any l _ _ H.out).mono ?_; rintro e w' ⟨rfl, rfl⟩))
  have H2 := Lib.hid h2; clear h1 h2
  go_loop [5, 7, 19] (fun s5 _ s19 => ∃ k : Nat, s19 = .int .i64 k ∧ s5 = .int .i64 (sumL (17 + tag) (l.take k)) ∧ k ≤ l.length) (fun _ _ s19 => l.length - (intOf s19).toNat)
  case atStart => exact ⟨0, rfl, rfl, Nat.zero_le _⟩
  case round =>
    obtain ⟨k, rfl, rfl, hk⟩ := hrel
    by_cases hlt : k < l.length
    · obtain ⟨x, hxk⟩ := getElem?_some_of_lt hlt
      obtain ⟨b, off, rfl, hb, hcc⟩ := hc k x hxk
      have c0 : w.cell? ⟨b, off + k, none⟩ = some (.int .i64 x) := by have := hcc 0 _ rfl; simpa using this
      obtain ⟨s0, s1⟩ := sumTo_in t0 t9 (l.take k)
      obtain ⟨x0, x1⟩ := summed_at H2.out hxk
      have Hs := Lib.hid (sumL_snoc (17 + tag) hxk)
      clear hc hcc hxk
      go_wp2_with (go_at_call 169; refine (more_any _ _ _ s0 (by omega) x0 x1).mono ?_; rintro e w' ⟨rfl, rfl⟩)
      go_round
      case rel => exact ⟨k + 1, by go_num, by rw [Hs.out], by omega⟩
      case measure => simp [intOf]; omega
    · go_wp2_with fail
      go_ret
      obtain rfl : k = l.length := by omega
      rw [List.take_length]
      exact ⟨rfl, (.of (by repeat (first | exact Ext.refl _ | refine Ext.up ?_ _ | refine Ext.alloc ?_ _ | refine Ext.drew ?_ | refine Ext.setRow ?_ (by first | (dsimp only; omega) | exact LeS.le | exact LeS.add _ | (simp; done) | (simp; omega)) _ | refine Ext.setCell ?_ (by first | (dsimp only; omega) | exact LeS.le | exact LeS.add _ | (simp; done) | (simp; omega)) _)))⟩
set_option maxHeartbeats 1000000 in
theorem l1Sum_any (tag : Int) (l : List Int) (v : Value) (w : World) (h : SL (RF encI) 1 w v l) (t0 : 0 ≤ tag) (t9 : tag ≤ 9) (h2 : summed l = true) :
    Calls Try.prog 149 #[.int .i64 tag, v] w fun e w' => e = .returned (.int .i64 (sumL (17 + tag) l)) ∧ w = w' := by
  obtain ⟨p, cap, rfl, hlen, hc⟩ := h.open
  have H2 := Lib.hid h2
  clear h h2
  go_enter Try.func149, Try.ntmps149
  go_wp2_with fail
  go_loop [5, 6] (fun s5 s6 => ∃ k : Nat, s6 = .int .i64 k ∧ s5 = .int .i64 (sumL (17 + tag) (l.take k)) ∧ k ≤ l.length) (fun _ s6 => l.length - (intOf s6).toNat)
  case atStart => exact ⟨0, rfl, rfl, Nat.zero_le _⟩
  case round =>
    obtain ⟨k, rfl, rfl, hk⟩ := hrel
    by_cases hlt : k < l.length
    · obtain ⟨x, hxk⟩ := getElem?_some_of_lt hlt
      obtain ⟨b, off, rfl, hb, hcc⟩ := hc k x hxk
      have c0 : w.cell? ⟨b, off + k, none⟩ = some (.int .i64 x) := by have := hcc 0 _ rfl; simpa using this
      obtain ⟨s0, s1⟩ := sumTo_in t0 t9 (l.take k)
      obtain ⟨x0, x1⟩ := summed_at H2.out hxk
      have hs := sumL_snoc (17 + tag) hxk
      unfold sumStep at hs
      have Hs := Lib.hid hs
      clear hc hcc hxk hs
      go_wp2_with fail
      go_round
      case rel => exact ⟨k + 1, by go_num, by rw [Hs.out], by omega⟩
      case measure => simp [intOf]; omega
    · go_wp2_with fail
      go_ret
      obtain rfl : k = l.length := by omega
      rw [List.take_length]
      exact ⟨rfl, rfl⟩
end Go.Proofs.Ytknohbdhbjppjaa
namespace Go.Proofs.Ytknohbdhbjppjaa
open Go Go.RowKit Go.Proofs

theorem common_next {a b : List Int} {k : Nat} {x : Int} (h : a[k]? = some x) (h0 : common (a.take k) b = false) (h1 : b.contains x = false) : common (a.take (k + 1)) b = false := by
  rw [List.take_add_one, h]; simp only [common, List.any_append, Option.toList_some, List.any_cons, List.any_nil, Bool.or_false, Bool.or_eq_false_iff] at *
  exact ⟨h0, h1⟩
theorem common_hit {a b : List Int} {k j : Nat} {x : Int} (h : a[k]? = some x) (h1 : b[j]? = some x) : common a b = true := by
  simp only [common, List.any_eq_true, List.contains_iff_mem]
  exact ⟨x, List.mem_of_getElem? h, List.mem_of_getElem? h1⟩
theorem contains_next {b : List Int} {j : Nat} {x y : Int} (h : b[j]? = some y) (h0 : (b.take j).contains x = false) (h1 : (x == y) = false) : (b.take (j + 1)).contains x = false := by
  have h1' : ¬ x = y := by simpa using h1
  rw [List.take_add_one, h]
  simp only [List.contains_eq_mem, List.mem_append, Option.toList_some, List.mem_singleton, decide_eq_false_iff_not, not_or] at *
  exact ⟨h0, h1'⟩

set_option maxHeartbeats 1000000 in
theorem l8Common_any (a b : List Int) (v v' : Value) (w : World) (h : SL (RF encI) 1 w v a) (h' : SL (RF encI) 1 w v' b) :
    Calls Try.prog 128 #[v, v'] w fun e w' => e = .returned (.bool (common a b)) ∧ Up w w' := by
  obtain ⟨p, cap, rfl, hlen, hc⟩ := h.open
  obtain ⟨p', cap', rfl, hlen', hc'⟩ := h'.open
  clear h h'
  go_enter Try.func128, Try.ntmps128
  go_wp2_with fail
  go_loopw [5, 6] (fun s5 _ wr => ∃ (k : Nat), s5 = .int .i64 k ∧ k ≤ a.length ∧ common (a.take k) b = false ∧ Up w wr) (fun s5 _ _ => a.length - (intOf s5).toNat)
  case atStart => exact ⟨0, rfl, Nat.zero_le _, rfl, (.of (by repeat (first | exact Ext.refl _ | refine Ext.up ?_ _ | refine Ext.alloc ?_ _ | refine Ext.drew ?_ | refine Ext.setRow ?_ (by first | (dsimp only; omega) | exact LeS.le | exact LeS.add _ | (simp; done) | (simp; omega)) _ | refine Ext.setCell ?_ (by first | (dsimp only; omega) | exact LeS.le | exact LeS.add _ | (simp; done) | (simp; omega)) _)))⟩
  case round =>
    obtain ⟨k, rfl, hk, hcom, ⟨z, rfl⟩⟩ := hrel
    by_cases hlt : k < a.length
    · obtain ⟨x, hxk⟩ := getElem?_some_of_lt hlt
      obtain ⟨b1, off, rfl, hb, hcc⟩ := hc k x hxk
      have c0 : w.cell? ⟨b1, off + k, none⟩ = some (.int .i64 x) := by have := hcc 0 _ rfl; simpa using this
      have k0 : (0 : Int) ≤ (k : Int) := by omega
      have Hx := Lib.hid hxk; have Hcom := Lib.hid hcom
      clear hc hcc hxk hcom
      go_wp2_with fail
      obtain ⟨wo, hwo⟩ : ∃ wo : World, wo = z.val := ⟨_, rfl⟩
      clear hwo
      go_loopw [6] (fun s6 wr => ∃ (j : Nat), s6 = .int .i64 j ∧ j ≤ b.length ∧ (b.take j).contains x = false ∧ Up w wr) (fun s6 _ => b.length - (intOf s6).toNat)
      case atStart => exact ⟨0, rfl, Nat.zero_le _, rfl, z, rfl⟩
      case round =>
        obtain ⟨j, rfl, hj, hcon, ⟨z', rfl⟩⟩ := hrel
        by_cases hlt' : j < b.length
        · obtain ⟨y, hyj⟩ := getElem?_some_of_lt hlt'
          obtain ⟨b2, off', rfl, hb', hdd⟩ := hc' j y hyj
          have d0 : w.cell? ⟨b2, off' + j, none⟩ = some (.int .i64 y) := by have := hdd 0 _ rfl; simpa using this
          have j0 : (0 : Int) ≤ (j : Int) := by omega
          have Hy := Lib.hid hyj; have Hcon := Lib.hid hcon
          clear hc' hdd hyj hcon
          rcases hq : (x == y) with _ | _
          · go_wp2_with fail
            (refine wp_region_up (by kernel_rfl) (by kernel_rfl) ?_; (repeat (go_big_quiet_step (fail))); refine wpQuiet_nil ?_; intro _ hw'; obtain ⟨zq, hw''⟩ := hw'; subst hw'')
            go_wp2_with fail
            go_roundw
            case rel => exact ⟨j + 1, by go_num, by omega, contains_next Hy.out Hcon.out hq, (.of (by repeat (first | exact Ext.refl _ | refine Ext.up ?_ _ | refine Ext.alloc ?_ _ | refine Ext.drew ?_ | refine Ext.setRow ?_ (by first | (dsimp only; omega) | exact LeS.le | exact LeS.add _ | (simp; done) | (simp; omega)) _ | refine Ext.setCell ?_ (by first | (dsimp only; omega) | exact LeS.le | exact LeS.add _ | (simp; done) | (simp; omega)) _)))⟩
            case measure => simp [intOf]; omega
          · go_wp2_with fail
            (refine wp_region_up (by kernel_rfl) (by kernel_rfl) ?_; (repeat (go_big_quiet_step (fail))); refine wpQuiet_nil ?_; intro _ hw'; obtain ⟨zq, hw''⟩ := hw'; subst hw'')
            go_wp2_with fail
            go_ret
            refine ⟨?_, (.of (by repeat (first | exact Ext.refl _ | refine Ext.up ?_ _ | refine Ext.alloc ?_ _ | refine Ext.drew ?_ | refine Ext.setRow ?_ (by first | (dsimp only; omega) | exact LeS.le | exact LeS.add _ | (simp; done) | (simp; omega)) _ | refine Ext.setCell ?_ (by first | (dsimp only; omega) | exact LeS.le | exact LeS.add _ | (simp; done) | (simp; omega)) _)))⟩
            show Ending.returned (.bool true) = _
            have e : x = y := by simpa using hq
            rw [common_hit Hx.out (by rw [e]; exact Hy.out)]
        · go_wp2_with fail
          have ej : j = b.length := by omega
          go_roundw
          case rel => exact ⟨k + 1, by go_num, by omega, common_next Hx.out Hcom.out (by rw [ej, List.take_length] at hcon; exact hcon), (.of (by repeat (first | exact Ext.refl _ | refine Ext.up ?_ _ | refine Ext.alloc ?_ _ | refine Ext.drew ?_ | refine Ext.setRow ?_ (by first | (dsimp only; omega) | exact LeS.le | exact LeS.add _ | (simp; done) | (simp; omega)) _ | refine Ext.setCell ?_ (by first | (dsimp only; omega) | exact LeS.le | exact LeS.add _ | (simp; done) | (simp; omega)) _)))⟩
          case measure => simp [intOf]; omega
    · go_wp2_with fail
      go_ret
      obtain rfl : k = a.length := by omega
      refine ⟨?_, (.of (by repeat (first | exact Ext.refl _ | refine Ext.up ?_ _ | refine Ext.alloc ?_ _ | refine Ext.drew ?_ | refine Ext.setRow ?_ (by first | (dsimp only; omega) | exact LeS.le | exact LeS.add _ | (simp; done) | (simp; omega)) _ | refine Ext.setCell ?_ (by first | (dsimp only; omega) | exact LeS.le | exact LeS.add _ | (simp; done) | (simp; omega)) _)))⟩
      show Ending.returned (.bool false) = _
      rw [List.take_length] at hcom
      rw [hcom]
theorem iConflict_any (x y : Actn) (w : World) : Calls Try.prog 66 #[.agg #[.int .i64 x.kind, .int .i64 x.src, .int .i64 x.dst, .int .i64 x.amt], .agg #[.int .i64 y.kind, .int .i64 y.src, .int .i64 y.dst, .int .i64 y.amt]] w fun e w' => e = .returned (.bool (conflict x y)) ∧ Up w w' := by
  rcases hx : x.ok with _ | _
  · rw [conflict, hx, Bool.false_and]
    go_enter Try.func66, Try.ntmps66
    go_wp2_with (go_at_call 126; refine (iActionValid_any _ _).mono ?_; rintro e w' ⟨rfl, z, rfl⟩)
    go_ret
    exact ⟨rfl, (.of (by repeat (first | exact Ext.refl _ | refine Ext.up ?_ _ | refine Ext.alloc ?_ _ | refine Ext.drew ?_ | refine Ext.setRow ?_ (by first | (dsimp only; omega) | exact LeS.le | exact LeS.add _ | (simp; done) | (simp; omega)) _ | refine Ext.setCell ?_ (by first | (dsimp only; omega) | exact LeS.le | exact LeS.add _ | (simp; done) | (simp; omega)) _)))⟩
  rcases hy : y.ok with _ | _
  · rw [conflict, hx, hy, Bool.true_and, Bool.false_and]
    go_enter Try.func66, Try.ntmps66
    go_wp2_with (go_at_call 126; refine (iActionValid_any _ _).mono ?_; rintro e w' ⟨rfl, z, rfl⟩)
    go_ret
    exact ⟨rfl, (.of (by repeat (first | exact Ext.refl _ | refine Ext.up ?_ _ | refine Ext.alloc ?_ _ | refine Ext.drew ?_ | refine Ext.setRow ?_ (by first | (dsimp only; omega) | exact LeS.le | exact LeS.add _ | (simp; done) | (simp; omega)) _ | refine Ext.setCell ?_ (by first | (dsimp only; omega) | exact LeS.le | exact LeS.add _ | (simp; done) | (simp; omega)) _)))⟩
  rw [conflict, hx, hy, Bool.true_and, Bool.true_and]
  go_enter Try.func66, Try.ntmps66
  go_wp2_with (first | (go_at_call 126; refine (iActionValid_any _ _).mono ?_; rintro e w' ⟨rfl, z, rfl⟩) | (go_at_call 127; refine (conflicts_any x y _ hx hy).mono ?_; rintro e w' ⟨rfl, z, rfl⟩))
  go_ret
  exact ⟨rfl, (.of (by repeat (first | exact Ext.refl _ | refine Ext.up ?_ _ | refine Ext.alloc ?_ _ | refine Ext.drew ?_ | refine Ext.setRow ?_ (by first | (dsimp only; omega) | exact LeS.le | exact LeS.add _ | (simp; done) | (simp; omega)) _ | refine Ext.setCell ?_ (by first | (dsimp only; omega) | exact LeS.le | exact LeS.add _ | (simp; done) | (simp; omega)) _)))⟩
end Go.Proofs.Ytknohbdhbjppjaa
