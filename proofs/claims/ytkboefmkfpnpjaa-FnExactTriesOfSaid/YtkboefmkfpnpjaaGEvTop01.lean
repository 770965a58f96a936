/- Ground for the rows of this seat: the program's closed facts; the decoders of the laws' parameter types. Walks: the small functions on numbers. Walks: sizes, copies, comparisons and marks of slices of flat elements (the laws' helpers). Plain ground: append of one element just built. -/
import Derived.Test.YtkboefmkfpnpjaaRows
import Derived.Test.YtkboefmkfpnpjaaGEvTop00
import Derived.Test.YtkboefmkfpnpjaaProg
set_option linter.unusedSimpArgs false
set_option linter.unusedVariables false
namespace Go.Proofs.Ytkboefmkfpnpjaa
open Go.ChangeShapes Go.WideShapes Go.ChangeAt Go.RowKit

theorem Try.own : ownKnob Try.prog.godebug = none := by kernel_rfl
theorem Try.laidOut : laidOutB Try.prog = true := by kernel_rfl
theorem Try.c_int : Try.prog.cellsOf 3 = 1 := by kernel_rfl

set_option maxRecDepth 100000 in
theorem dec_Version : Dec Try.prog 169 3 (RF Ver.enc) := by
  intro H enc W sp held fuel cs x h
  obtain ⟨hl, hf⟩ := trod_fields Try.underlying169 h
  have hl3 : cs.length = 3 := hl.trans (by kernel_rfl)
  refine ⟨hl3, ?_⟩
  match cs, hl3 with
  | [a, b, c], _ =>
    obtain ⟨n0, y0, h0⟩ := hf 0 _ rfl
    obtain ⟨n1, y1, h1⟩ := hf 1 _ rfl
    obtain ⟨n2, y2, h2⟩ := hf 2 _ rfl
    obtain ⟨_, x0, e0, _⟩ := dec_int Try.underlying3 _ enc W sp held _ _ _ h0
    obtain ⟨_, x1, e1, _⟩ := dec_int Try.underlying3 _ enc W sp held _ _ _ h1
    obtain ⟨_, x2, e2, _⟩ := dec_int Try.underlying3 _ enc W sp held _ _ _ h2
    simp [Try.c_int] at e0 e1 e2
    exact ⟨⟨x0, x1, x2⟩, by simp [RF, Ver.enc, e0, e1, e2]⟩
theorem dec_VersionS : Dec Try.prog 73 1 (RSl (RF Ver.enc) 3) := dec_slice Try.underlying73 (by kernel_rfl) (by decide) dec_Version
set_option maxRecDepth 100000 in
theorem dec_Entry : Dec Try.prog 165 2 (RF Ent.enc) := by
  intro H enc W sp held fuel cs x h
  obtain ⟨hl, hf⟩ := trod_fields Try.underlying165 h
  have hl2 : cs.length = 2 := hl.trans (by kernel_rfl)
  refine ⟨hl2, ?_⟩
  match cs, hl2 with
  | [a, b], _ =>
    obtain ⟨n0, y0, h0⟩ := hf 0 _ rfl
    obtain ⟨n1, y1, h1⟩ := hf 1 _ rfl
    obtain ⟨_, x0, e0, _⟩ := dec_int Try.underlying3 _ enc W sp held _ _ _ h0
    obtain ⟨_, x1, e1, _⟩ := dec_int Try.underlying3 _ enc W sp held _ _ _ h1
    simp [Try.c_int] at e0 e1
    exact ⟨⟨x0, x1⟩, by simp [RF, Ent.enc, e0, e1]⟩
theorem dec_EntryS : Dec Try.prog 71 1 (RSl (RF Ent.enc) 2) := dec_slice Try.underlying71 (by kernel_rfl) (by decide) dec_Entry
set_option maxRecDepth 100000 in
theorem dec_Action : Dec Try.prog 167 4 (RF Actn.enc) := by
  intro H enc W sp held fuel cs x h
  obtain ⟨hl, hf⟩ := trod_fields Try.underlying167 h
  have hl4 : cs.length = 4 := hl.trans (by kernel_rfl)
  refine ⟨hl4, ?_⟩
  match cs, hl4 with
  | [a, b, c, d], _ =>
    obtain ⟨n0, y0, h0⟩ := hf 0 _ rfl
    obtain ⟨n1, y1, h1⟩ := hf 1 _ rfl
    obtain ⟨n2, y2, h2⟩ := hf 2 _ rfl
    obtain ⟨n3, y3, h3⟩ := hf 3 _ rfl
    obtain ⟨_, x0, e0, _⟩ := dec_int Try.underlying3 _ enc W sp held _ _ _ h0
    obtain ⟨_, x1, e1, _⟩ := dec_int Try.underlying3 _ enc W sp held _ _ _ h1
    obtain ⟨_, x2, e2, _⟩ := dec_int Try.underlying3 _ enc W sp held _ _ _ h2
    obtain ⟨_, x3, e3, _⟩ := dec_int Try.underlying3 _ enc W sp held _ _ _ h3
    simp [Try.c_int] at e0 e1 e2 e3
    exact ⟨⟨x0, x1, x2, x3⟩, by simp [RF, Actn.enc, e0, e1, e2, e3]⟩
theorem dec_ActionS : Dec Try.prog 72 1 (RSl (RF Actn.enc) 4) := dec_slice Try.underlying72 (by kernel_rfl) (by decide) dec_Action
theorem dec_Int : Dec Try.prog 3 1 RInt := dec_int Try.underlying3
theorem dec_IntF : Dec Try.prog 3 1 (RF encI) := by
  intro H enc W sp held fuel cs x h
  obtain ⟨h1, n, h2, _⟩ := dec_Int H enc W sp held fuel cs x h
  exact ⟨h1, n, h2⟩
theorem dec_IntS : Dec Try.prog 42 1 (RSl (RF encI) 1) := dec_slice Try.underlying42 (by kernel_rfl) (by decide) dec_IntF
set_option maxRecDepth 100000 in
theorem open_sl {α : Type} {t e sz : Nat} {R : World → List Value → α → Prop} (hd : Dec Try.prog t 1 (RSl R sz)) (ht : Try.prog.underlying t = some (.slice e)) {H : Type} {enc : TypeId × Value → H} {W : World} {sp : Nat → Bool} {held : Bool} {v : Value} {d : DataW H} {ps : List MemPlace} {r : Reach} {b0 : Nat}
    (hok : Value.okWide Try.prog W r b0 t v) (h : DataW.Trod enc Try.prog W 0 sp held t v d ps) : ∃ l, SL R sz W v l := by
  obtain ⟨a, len, cap, rfl⟩ := okWide_slice ht hok
  obtain ⟨l, v', e, hl⟩ := hd.one (fun _ h => by cases h) h
  cases e; exact ⟨l, hl⟩
set_option maxRecDepth 100000 in
theorem open_i {H : Type} {enc : TypeId × Value → H} {W : World} {sp : Nat → Bool} {held : Bool} {v : Value} {d : DataW H} {ps : List MemPlace} {r : Reach} {b0 : Nat}
    (hok : Value.okWide Try.prog W r b0 3 v) (h : DataW.Trod enc Try.prog W 0 sp held 3 v d ps) : ∃ n, v = .int .i64 n ∧ I64 n := by
  obtain ⟨x, rfl, _, _, wx⟩ := open_int Try.underlying3 hok h
  exact ⟨x, rfl, I64.of_wf wx⟩
end Go.Proofs.Ytkboefmkfpnpjaa
namespace Go.Proofs.Ytkboefmkfpnpjaa
open Go Go.RowKit Go.Proofs
theorem in_any (n lo hi : Int) (w : World) : Calls Try.prog 88 #[.int .i64 n, .int .i64 lo, .int .i64 hi] w fun e w' => e = .returned (.bool (inR n lo hi)) ∧ w = w' := by
  unfold inR
  by_cases h : lo ≤ n
  · go_enter Try.func88, Try.ntmps88
    go_wp2
    go_ret; exact ⟨by simp [h], rfl⟩
  · have h' : decide (lo ≤ n) = false := by simpa using h
    go_enter Try.func88, Try.ntmps88
    go_wp2
    go_ret; exact ⟨by simp, rfl⟩
theorem l1In_any (n lo hi : Int) (w : World) : Calls Try.prog 66 #[.int .i64 n, .int .i64 lo, .int .i64 hi] w fun e w' => e = .returned (.bool (inR n lo hi)) ∧ w = w' := by
  unfold inR
  by_cases h : lo ≤ n
  · go_enter Try.func66, Try.ntmps66
    go_wp2
    go_ret; exact ⟨by simp [h], rfl⟩
  · have h' : decide (lo ≤ n) = false := by simpa using h
    go_enter Try.func66, Try.ntmps66
    go_wp2
    go_ret; exact ⟨by simp, rfl⟩
theorem isKey_any (n : Int) (w : World) : Calls Try.prog 91 #[.int .i64 n] w fun e w' => e = .returned (.bool (inR n 0 31)) ∧ w = w' := by
  go_enter Try.func91, Try.ntmps91
  go_wp2_with (go_at_call 88; refine (in_any _ _ _ _).mono ?_; rintro e w' ⟨rfl, rfl⟩)
  go_ret
  exact ⟨rfl, rfl⟩
theorem isValue_any (n : Int) (w : World) : Calls Try.prog 98 #[.int .i64 n] w fun e w' => e = .returned (.bool (inR n 0 1000000)) ∧ w = w' := by
  go_enter Try.func98, Try.ntmps98
  go_wp2_with (go_at_call 88; refine (in_any _ _ _ _).mono ?_; rintro e w' ⟨rfl, rfl⟩)
  go_ret
  exact ⟨rfl, rfl⟩
theorem isSum_any (n : Int) (w : World) : Calls Try.prog 84 #[.int .i64 n] w fun e w' => e = .returned (.bool (inR n 0 1000002)) ∧ w = w' := by
  go_enter Try.func84, Try.ntmps84
  go_wp2_with (go_at_call 88; refine (in_any _ _ _ _).mono ?_; rintro e w' ⟨rfl, rfl⟩)
  go_ret
  exact ⟨rfl, rfl⟩
theorem isSummed_any (n : Int) (w : World) : Calls Try.prog 85 #[.int .i64 n] w fun e w' => e = .returned (.bool (inR n 0 2000000)) ∧ w = w' := by
  go_enter Try.func85, Try.ntmps85
  go_wp2_with (go_at_call 88; refine (in_any _ _ _ _).mono ?_; rintro e w' ⟨rfl, rfl⟩)
  go_ret
  exact ⟨rfl, rfl⟩
/-- cmp.Or of two. -/
theorem cmpOr2 (x y : Int) (b : Nat) (w : World) (h0 : w.cell? ⟨b, 0, none⟩ = some (.int .i64 x)) (h1 : w.cell? ⟨b, 1, none⟩ = some (.int .i64 y)) :
    Calls Try.prog 105 #[.slice (some ⟨b, 0, none⟩) 2 2] w fun e w' => e = .returned (.int .i64 (or2 x y)) ∧ w = w' := by
  unfold or2
  by_cases hx : x = 0
  · subst hx
    by_cases hy : y = 0
    · subst hy
      go_enter Try.func105, Try.ntmps105
      go_wp2
      refine wp_loop_rounds 3 ?_; rw [rounds_succ]
      go_wp2
      rw [rounds_succ]
      go_wp2
      rw [rounds_succ]
      go_wp2
      go_ret; exact ⟨by simp, rfl⟩
    · have hy' : (y == 0) = false := by simpa using hy
      have hy2 : (y != 0) = true := by simpa using hy
      go_enter Try.func105, Try.ntmps105
      go_wp2
      refine wp_loop_rounds 2 ?_; rw [rounds_succ]
      go_wp2
      rw [rounds_succ]
      go_wp2
      go_ret; exact ⟨by simp, rfl⟩
  · have hy' : (x == 0) = false := by simpa using hx
    have hy2 : (x != 0) = true := by simpa using hx
    go_enter Try.func105, Try.ntmps105
    go_wp2
    refine wp_loop_rounds 1 ?_; rw [rounds_succ]
    go_wp2
    go_ret; exact ⟨by simp [hx], rfl⟩
end Go.Proofs.Ytkboefmkfpnpjaa
namespace Go.Proofs.Ytkboefmkfpnpjaa
open Go Go.RowKit Go.Proofs
theorem fI : AppFacts Try.prog 42 3 1 8 := by
  have h : (Try.prog.info? 3).map (fun i => (i.zero, i.size, i.bytes)) = some (some (.int .i64 0), 1, 8) := by kernel_rfl
  obtain ⟨i0, hi, hz0, hz1, hz2⟩ := info_parts h
  exact ⟨Try.underlying42, ⟨i0, _, hi, hz0, hz1, hz2, rfl⟩, by decide⟩
theorem fEnt : AppFacts Try.prog 32 31 2 16 := by
  have h : (Try.prog.info? 31).map (fun i => (i.zero, i.size, i.bytes)) = some (some (.agg #[.int .i64 0, .int .i64 0]), 2, 16) := by kernel_rfl
  obtain ⟨i0, hi, hz0, hz1, hz2⟩ := info_parts h
  exact ⟨Try.underlying32, ⟨i0, _, hi, hz0, hz1, hz2, rfl⟩, by decide⟩
theorem fActn : AppFacts Try.prog 36 24 4 32 := by
  have h : (Try.prog.info? 24).map (fun i => (i.zero, i.size, i.bytes)) = some (some (.agg #[.int .i64 0, .int .i64 0, .int .i64 0, .int .i64 0]), 4, 32) := by kernel_rfl
  obtain ⟨i0, hi, hz0, hz1, hz2⟩ := info_parts h
  exact ⟨Try.underlying36, ⟨i0, _, hi, hz0, hz1, hz2, rfl⟩, by decide⟩
theorem fVer : AppFacts Try.prog 57 88 3 24 := by
  have h : (Try.prog.info? 88).map (fun i => (i.zero, i.size, i.bytes)) = some (some (.agg #[.int .i64 0, .int .i64 0, .int .i64 0]), 3, 24) := by kernel_rfl
  obtain ⟨i0, hi, hz0, hz1, hz2⟩ := info_parts h
  exact ⟨Try.underlying57, ⟨i0, _, hi, hz0, hz1, hz2, rfl⟩, by decide⟩
theorem toEntry_any (x : Ent) (w : World) : Calls Try.prog 152 #[.agg #[.int .i64 x.k, .int .i64 x.v]] w fun e w' => e = .returned (.agg #[.int .i64 x.k, .int .i64 x.v]) ∧ Up w w' := by
  go_enter Try.func152, Try.ntmps152
  go_wp2_with fail
  refine bodyPost_ret (v := .agg #[.int .i64 x.k, .int .i64 x.v]) (by simp [results, Try.results152, go_sem]) rfl ?_
  exact ⟨rfl, (.of (by repeat (first | exact Ext.refl _ | refine Ext.up ?_ _ | refine Ext.alloc ?_ _ | refine Ext.drew ?_ | refine Ext.setRow ?_ (by first | (dsimp only; omega) | exact LeS.le | exact LeS.add _ | (simp; done) | (simp; omega)) _ | refine Ext.setCell ?_ (by first | (dsimp only; omega) | exact LeS.le | exact LeS.add _ | (simp; done) | (simp; omega)) _)))⟩
theorem eqEntry_same (x : Ent) (w : World) : Calls Try.prog 159 #[.agg #[.int .i64 x.k, .int .i64 x.v], .agg #[.int .i64 x.k, .int .i64 x.v]] w fun e w' => e = .returned (.bool true) ∧ Up w w' := by
  go_enter Try.func159, Try.ntmps159
  go_wp2
  go_ret
  exact ⟨rfl, (.of (by repeat (first | exact Ext.refl _ | refine Ext.up ?_ _ | refine Ext.alloc ?_ _ | refine Ext.drew ?_ | refine Ext.setRow ?_ (by first | (dsimp only; omega) | exact LeS.le | exact LeS.add _ | (simp; done) | (simp; omega)) _ | refine Ext.setCell ?_ (by first | (dsimp only; omega) | exact LeS.le | exact LeS.add _ | (simp; done) | (simp; omega)) _)))⟩
theorem szEntryS_any (l : List Ent) (v : Value) (n : Int) (w : World) (h : SL (RF Ent.enc) 2 w v l) (hn0 : 0 ≤ n) (hn1 : n ≤ 1048576) :
    Calls Try.prog 106 #[v, .int .i64 n] w fun e w' => e = .returned (.int .i64 (szOf n l.length)) ∧ w = w' := by
  obtain ⟨a, cap, rfl, hlen, _⟩ := h.open
  unfold szOf
  go_enter Try.func106, Try.ntmps106
  go_wp2
  all_goals (go_ret; exact ⟨by simp [*], rfl⟩)
set_option maxHeartbeats 1000000 in
theorem toEntryS_any (l : List Ent) (v : Value) (w : World) (h : SL (RF Ent.enc) 2 w v l) (hn : l.length ≤ 1048576) :
    Calls Try.prog 112 #[v] w fun e w' => ∃ v', e = .returned v' ∧ Up w w' ∧ Own Ent.enc 31 2 w.heap.size w' v' l := by
  obtain ⟨a, cap, rfl, hlen, hc⟩ := h.open
  go_enter Try.func112, Try.ntmps112
  go_wp2_with (at_make; refine wpList_mk fEnt rfl _ _ rfl l.length rfl rfl (by omega) (by omega) (Ext.refl _) ?_; intro z0 xs0 hown0)
  go_loopw [4] (fun s4 wr => ∃ (k : Nat) (xs : List Value), s4 = .int .i64 k ∧ k ≤ l.length ∧ Up w wr ∧ wr.ownsRow w.heap.size 31 2 (.slice (some ⟨w.heap.size, 0, none⟩) l.length l.length) l.length xs ∧ Filled Ent.enc 2 l k xs) (fun s4 _ => l.length - (intOf s4).toNat)
  case atStart => exact ⟨0, xs0, rfl, Nat.zero_le _, ⟨z0, rfl⟩, hown0, Filled.zero _ _ _ _⟩
  case round =>
    obtain ⟨k, xs, rfl, hk, ⟨z, rfl⟩, hown, hfill⟩ := hrel
    by_cases hlt : k < l.length
    · obtain ⟨x, hxk⟩ := getElem?_some_of_lt hlt
      obtain ⟨b, off, rfl, hb, hcc⟩ := hc k x hxk
      have c0 : w.cell? ⟨b, off + k * 2, none⟩ = some (.int .i64 x.k) := hcc 0 _ rfl
      have c1 : w.cell? ⟨b, off + k * 2 + 1, none⟩ = some (.int .i64 x.v) := hcc 1 _ rfl
      have hxl : xs.length = l.length * 2 := hown.1
      obtain ⟨u0, hu0⟩ := getElem?_some_of_lt (show k * 2 < xs.length by omega)
      obtain ⟨u1, hu1⟩ := getElem?_some_of_lt (show k * 2 + 1 < xs.length by omega)
      have d0 : z.val.cell? ⟨w.heap.size, k * 2, none⟩ = some u0 := (hown.cellAt _ (by omega)).trans hu0
      have f0 := hown.frozenAt (k * 2)
      have d1 : z.val.cell? ⟨w.heap.size, k * 2 + 1, none⟩ = some u1 := (hown.cellAt _ (by omega)).trans hu1
      have f1 := hown.frozenAt (k * 2 + 1)
      have hL : LtS w.heap.size z.val := LtS.of_some d0
      have Hx := Lib.hid hxk; have Hown := Lib.hid hown; have Hf := Lib.hid hfill; have Hxl := Lib.hid hxl
      clear hc hcc hxk hown hfill hxl hu0 hu1
      go_wp2_with (go_at_call 152; refine (toEntry_any x _).mono ?_; rintro e w' ⟨rfl, z1, rfl⟩)
      go_roundw
      case rel => exact ⟨k + 1, setAll xs (k * 2) (Ent.enc x), by go_num, by omega, .of (Ext.setAll (Nat.le_refl _) (Ent.enc x) _ ((Ext.up (Ext.refl _) z).up z1)), ownsRow_setAll (Ent.enc x) _ (ownsRow_up Hown.out z1.ext), Hf.out.next Ent.enc_length Hx.out Hxl.out⟩
      case measure => simp [intOf]; omega
    · go_wp2_with fail
      go_ret
      obtain rfl : k = l.length := by omega
      refine ⟨_, rfl, ⟨z, rfl⟩, ?_⟩
      have e := Filled.all Ent.enc_length hown.1 hfill
      subst e
      exact hown
set_option maxHeartbeats 1000000 in
theorem eqEntryS_same (l : List Ent) (v v' : Value) (w : World) (h : SL (RF Ent.enc) 2 w v l) (h' : SL (RF Ent.enc) 2 w v' l) :
    Calls Try.prog 119 #[v, v'] w fun e w' => e = .returned (.bool true) ∧ Up w w' := by
  obtain ⟨a, cap, rfl, hlen, hc⟩ := h.open
  obtain ⟨a', cap', rfl, _, hc'⟩ := h'.open
  go_enter Try.func119, Try.ntmps119
  go_wp2_with fail
  go_loopw [5] (fun s5 wr => ∃ (k : Nat), s5 = .int .i64 k ∧ k ≤ l.length ∧ Up w wr) (fun s5 _ => l.length - (intOf s5).toNat)
  case atStart => exact ⟨0, rfl, Nat.zero_le _, .of (Ext.refl _)⟩
  case round =>
    obtain ⟨k, rfl, hk, ⟨z, rfl⟩⟩ := hrel
    by_cases hlt : k < l.length
    · obtain ⟨x, hxk⟩ := getElem?_some_of_lt hlt
      obtain ⟨b, off, rfl, hb, hcc⟩ := hc k x hxk
      obtain ⟨b', off', rfl, hb', hdd⟩ := hc' k x hxk
      have c0 : w.cell? ⟨b, off + k * 2, none⟩ = some (.int .i64 x.k) := hcc 0 _ rfl
      have c1 : w.cell? ⟨b, off + k * 2 + 1, none⟩ = some (.int .i64 x.v) := hcc 1 _ rfl
      have d0 : w.cell? ⟨b', off' + k * 2, none⟩ = some (.int .i64 x.k) := hdd 0 _ rfl
      have d1 : w.cell? ⟨b', off' + k * 2 + 1, none⟩ = some (.int .i64 x.v) := hdd 1 _ rfl
      have k0 : (0 : Int) ≤ (k : Int) := by omega
      clear hc hcc hc' hdd hxk
      go_wp2_with fail
      (refine wp_region_up (by kernel_rfl) (by kernel_rfl) ?_; (repeat (go_big_quiet_step ((go_at_call 159; exact Calls.up (eqEntry_same x _))))); refine wpQuiet_nil ?_; intro _ hw'; obtain ⟨zq, hw''⟩ := hw'; subst hw'')
      go_wp2_with fail
      go_roundw
      case rel => exact ⟨k + 1, by go_num, by omega, (.of (by repeat (first | exact Ext.refl _ | refine Ext.up ?_ _ | refine Ext.alloc ?_ _ | refine Ext.drew ?_ | refine Ext.setRow ?_ (by first | (dsimp only; omega) | exact LeS.le | exact LeS.add _ | (simp; done) | (simp; omega)) _ | refine Ext.setCell ?_ (by first | (dsimp only; omega) | exact LeS.le | exact LeS.add _ | (simp; done) | (simp; omega)) _)))⟩
      case measure => simp [intOf]; omega
    · go_wp2_with fail
      go_ret
      exact ⟨rfl, z, rfl⟩
theorem toAction_any (x : Actn) (w : World) : Calls Try.prog 153 #[.agg #[.int .i64 x.kind, .int .i64 x.src, .int .i64 x.dst, .int .i64 x.amt]] w fun e w' => e = .returned (.agg #[.int .i64 x.kind, .int .i64 x.src, .int .i64 x.dst, .int .i64 x.amt]) ∧ Up w w' := by
  go_enter Try.func153, Try.ntmps153
  go_wp2_with fail
  refine bodyPost_ret (v := .agg #[.int .i64 x.kind, .int .i64 x.src, .int .i64 x.dst, .int .i64 x.amt]) (by simp [results, Try.results153, go_sem]) rfl ?_
  exact ⟨rfl, (.of (by repeat (first | exact Ext.refl _ | refine Ext.up ?_ _ | refine Ext.alloc ?_ _ | refine Ext.drew ?_ | refine Ext.setRow ?_ (by first | (dsimp only; omega) | exact LeS.le | exact LeS.add _ | (simp; done) | (simp; omega)) _ | refine Ext.setCell ?_ (by first | (dsimp only; omega) | exact LeS.le | exact LeS.add _ | (simp; done) | (simp; omega)) _)))⟩
theorem eqAction_same (x : Actn) (w : World) : Calls Try.prog 160 #[.agg #[.int .i64 x.kind, .int .i64 x.src, .int .i64 x.dst, .int .i64 x.amt], .agg #[.int .i64 x.kind, .int .i64 x.src, .int .i64 x.dst, .int .i64 x.amt]] w fun e w' => e = .returned (.bool true) ∧ Up w w' := by
  go_enter Try.func160, Try.ntmps160
  go_wp2
  go_ret
  exact ⟨rfl, (.of (by repeat (first | exact Ext.refl _ | refine Ext.up ?_ _ | refine Ext.alloc ?_ _ | refine Ext.drew ?_ | refine Ext.setRow ?_ (by first | (dsimp only; omega) | exact LeS.le | exact LeS.add _ | (simp; done) | (simp; omega)) _ | refine Ext.setCell ?_ (by first | (dsimp only; omega) | exact LeS.le | exact LeS.add _ | (simp; done) | (simp; omega)) _)))⟩
theorem szActionS_any (l : List Actn) (v : Value) (n : Int) (w : World) (h : SL (RF Actn.enc) 4 w v l) (hn0 : 0 ≤ n) (hn1 : n ≤ 1048576) :
    Calls Try.prog 107 #[v, .int .i64 n] w fun e w' => e = .returned (.int .i64 (szOf n l.length)) ∧ w = w' := by
  obtain ⟨a, cap, rfl, hlen, _⟩ := h.open
  unfold szOf
  go_enter Try.func107, Try.ntmps107
  go_wp2
  all_goals (go_ret; exact ⟨by simp [*], rfl⟩)
set_option maxHeartbeats 1000000 in
theorem toActionS_any (l : List Actn) (v : Value) (w : World) (h : SL (RF Actn.enc) 4 w v l) (hn : l.length ≤ 1048576) :
    Calls Try.prog 113 #[v] w fun e w' => ∃ v', e = .returned v' ∧ Up w w' ∧ Own Actn.enc 24 4 w.heap.size w' v' l := by
  obtain ⟨a, cap, rfl, hlen, hc⟩ := h.open
  go_enter Try.func113, Try.ntmps113
  go_wp2_with (at_make; refine wpList_mk fActn rfl _ _ rfl l.length rfl rfl (by omega) (by omega) (Ext.refl _) ?_; intro z0 xs0 hown0)
  go_loopw [4] (fun s4 wr => ∃ (k : Nat) (xs : List Value), s4 = .int .i64 k ∧ k ≤ l.length ∧ Up w wr ∧ wr.ownsRow w.heap.size 24 4 (.slice (some ⟨w.heap.size, 0, none⟩) l.length l.length) l.length xs ∧ Filled Actn.enc 4 l k xs) (fun s4 _ => l.length - (intOf s4).toNat)
  case atStart => exact ⟨0, xs0, rfl, Nat.zero_le _, ⟨z0, rfl⟩, hown0, Filled.zero _ _ _ _⟩
  case round =>
    obtain ⟨k, xs, rfl, hk, ⟨z, rfl⟩, hown, hfill⟩ := hrel
    by_cases hlt : k < l.length
    · obtain ⟨x, hxk⟩ := getElem?_some_of_lt hlt
      obtain ⟨b, off, rfl, hb, hcc⟩ := hc k x hxk
      have c0 : w.cell? ⟨b, off + k * 4, none⟩ = some (.int .i64 x.kind) := hcc 0 _ rfl
      have c1 : w.cell? ⟨b, off + k * 4 + 1, none⟩ = some (.int .i64 x.src) := hcc 1 _ rfl
      have c2 : w.cell? ⟨b, off + k * 4 + 2, none⟩ = some (.int .i64 x.dst) := hcc 2 _ rfl
      have c3 : w.cell? ⟨b, off + k * 4 + 3, none⟩ = some (.int .i64 x.amt) := hcc 3 _ rfl
      have hxl : xs.length = l.length * 4 := hown.1
      obtain ⟨u0, hu0⟩ := getElem?_some_of_lt (show k * 4 < xs.length by omega)
      obtain ⟨u1, hu1⟩ := getElem?_some_of_lt (show k * 4 + 1 < xs.length by omega)
      obtain ⟨u2, hu2⟩ := getElem?_some_of_lt (show k * 4 + 2 < xs.length by omega)
      obtain ⟨u3, hu3⟩ := getElem?_some_of_lt (show k * 4 + 3 < xs.length by omega)
      have d0 : z.val.cell? ⟨w.heap.size, k * 4, none⟩ = some u0 := (hown.cellAt _ (by omega)).trans hu0
      have f0 := hown.frozenAt (k * 4)
      have d1 : z.val.cell? ⟨w.heap.size, k * 4 + 1, none⟩ = some u1 := (hown.cellAt _ (by omega)).trans hu1
      have f1 := hown.frozenAt (k * 4 + 1)
      have d2 : z.val.cell? ⟨w.heap.size, k * 4 + 2, none⟩ = some u2 := (hown.cellAt _ (by omega)).trans hu2
      have f2 := hown.frozenAt (k * 4 + 2)
      have d3 : z.val.cell? ⟨w.heap.size, k * 4 + 3, none⟩ = some u3 := (hown.cellAt _ (by omega)).trans hu3
      have f3 := hown.frozenAt (k * 4 + 3)
      have hL : LtS w.heap.size z.val := LtS.of_some d0
      have Hx := Lib.hid hxk; have Hown := Lib.hid hown; have Hf := Lib.hid hfill; have Hxl := Lib.hid hxl
      clear hc hcc hxk hown hfill hxl hu0 hu1 hu2 hu3
      go_wp2_with (go_at_call 153; refine (toAction_any x _).mono ?_; rintro e w' ⟨rfl, z1, rfl⟩)
      go_roundw
      case rel => exact ⟨k + 1, setAll xs (k * 4) (Actn.enc x), by go_num, by omega, .of (Ext.setAll (Nat.le_refl _) (Actn.enc x) _ ((Ext.up (Ext.refl _) z).up z1)), ownsRow_setAll (Actn.enc x) _ (ownsRow_up Hown.out z1.ext), Hf.out.next Actn.enc_length Hx.out Hxl.out⟩
      case measure => simp [intOf]; omega
    · go_wp2_with fail
      go_ret
      obtain rfl : k = l.length := by omega
      refine ⟨_, rfl, ⟨z, rfl⟩, ?_⟩
      have e := Filled.all Actn.enc_length hown.1 hfill
      subst e
      exact hown
set_option maxHeartbeats 1000000 in
theorem eqActionS_same (l : List Actn) (v v' : Value) (w : World) (h : SL (RF Actn.enc) 4 w v l) (h' : SL (RF Actn.enc) 4 w v' l) :
    Calls Try.prog 120 #[v, v'] w fun e w' => e = .returned (.bool true) ∧ Up w w' := by
  obtain ⟨a, cap, rfl, hlen, hc⟩ := h.open
  obtain ⟨a', cap', rfl, _, hc'⟩ := h'.open
  go_enter Try.func120, Try.ntmps120
  go_wp2_with fail
  go_loopw [5] (fun s5 wr => ∃ (k : Nat), s5 = .int .i64 k ∧ k ≤ l.length ∧ Up w wr) (fun s5 _ => l.length - (intOf s5).toNat)
  case atStart => exact ⟨0, rfl, Nat.zero_le _, .of (Ext.refl _)⟩
  case round =>
    obtain ⟨k, rfl, hk, ⟨z, rfl⟩⟩ := hrel
    by_cases hlt : k < l.length
    · obtain ⟨x, hxk⟩ := getElem?_some_of_lt hlt
      obtain ⟨b, off, rfl, hb, hcc⟩ := hc k x hxk
      obtain ⟨b', off', rfl, hb', hdd⟩ := hc' k x hxk
      have c0 : w.cell? ⟨b, off + k * 4, none⟩ = some (.int .i64 x.kind) := hcc 0 _ rfl
      have c1 : w.cell? ⟨b, off + k * 4 + 1, none⟩ = some (.int .i64 x.src) := hcc 1 _ rfl
      have c2 : w.cell? ⟨b, off + k * 4 + 2, none⟩ = some (.int .i64 x.dst) := hcc 2 _ rfl
      have c3 : w.cell? ⟨b, off + k * 4 + 3, none⟩ = some (.int .i64 x.amt) := hcc 3 _ rfl
      have d0 : w.cell? ⟨b', off' + k * 4, none⟩ = some (.int .i64 x.kind) := hdd 0 _ rfl
      have d1 : w.cell? ⟨b', off' + k * 4 + 1, none⟩ = some (.int .i64 x.src) := hdd 1 _ rfl
      have d2 : w.cell? ⟨b', off' + k * 4 + 2, none⟩ = some (.int .i64 x.dst) := hdd 2 _ rfl
      have d3 : w.cell? ⟨b', off' + k * 4 + 3, none⟩ = some (.int .i64 x.amt) := hdd 3 _ rfl
      have k0 : (0 : Int) ≤ (k : Int) := by omega
      clear hc hcc hc' hdd hxk
      go_wp2_with fail
      (refine wp_region_up (by kernel_rfl) (by kernel_rfl) ?_; (repeat (go_big_quiet_step ((go_at_call 160; exact Calls.up (eqAction_same x _))))); refine wpQuiet_nil ?_; intro _ hw'; obtain ⟨zq, hw''⟩ := hw'; subst hw'')
      go_wp2_with fail
      go_roundw
      case rel => exact ⟨k + 1, by go_num, by omega, (.of (by repeat (first | exact Ext.refl _ | refine Ext.up ?_ _ | refine Ext.alloc ?_ _ | refine Ext.drew ?_ | refine Ext.setRow ?_ (by first | (dsimp only; omega) | exact LeS.le | exact LeS.add _ | (simp; done) | (simp; omega)) _ | refine Ext.setCell ?_ (by first | (dsimp only; omega) | exact LeS.le | exact LeS.add _ | (simp; done) | (simp; omega)) _)))⟩
      case measure => simp [intOf]; omega
    · go_wp2_with fail
      go_ret
      exact ⟨rfl, z, rfl⟩
theorem toVersion_any (x : Ver) (w : World) : Calls Try.prog 154 #[.agg #[.int .i64 x.k, .int .i64 x.b, .int .i64 x.v]] w fun e w' => e = .returned (.agg #[.int .i64 x.k, .int .i64 x.b, .int .i64 x.v]) ∧ Up w w' := by
  go_enter Try.func154, Try.ntmps154
  go_wp2_with fail
  refine bodyPost_ret (v := .agg #[.int .i64 x.k, .int .i64 x.b, .int .i64 x.v]) (by simp [results, Try.results154, go_sem]) rfl ?_
  exact ⟨rfl, (.of (by repeat (first | exact Ext.refl _ | refine Ext.up ?_ _ | refine Ext.alloc ?_ _ | refine Ext.drew ?_ | refine Ext.setRow ?_ (by first | (dsimp only; omega) | exact LeS.le | exact LeS.add _ | (simp; done) | (simp; omega)) _ | refine Ext.setCell ?_ (by first | (dsimp only; omega) | exact LeS.le | exact LeS.add _ | (simp; done) | (simp; omega)) _)))⟩
theorem eqVersion_same (x : Ver) (w : World) : Calls Try.prog 161 #[.agg #[.int .i64 x.k, .int .i64 x.b, .int .i64 x.v], .agg #[.int .i64 x.k, .int .i64 x.b, .int .i64 x.v]] w fun e w' => e = .returned (.bool true) ∧ Up w w' := by
  go_enter Try.func161, Try.ntmps161
  go_wp2
  go_ret
  exact ⟨rfl, (.of (by repeat (first | exact Ext.refl _ | refine Ext.up ?_ _ | refine Ext.alloc ?_ _ | refine Ext.drew ?_ | refine Ext.setRow ?_ (by first | (dsimp only; omega) | exact LeS.le | exact LeS.add _ | (simp; done) | (simp; omega)) _ | refine Ext.setCell ?_ (by first | (dsimp only; omega) | exact LeS.le | exact LeS.add _ | (simp; done) | (simp; omega)) _)))⟩
theorem szVersionS_any (l : List Ver) (v : Value) (n : Int) (w : World) (h : SL (RF Ver.enc) 3 w v l) (hn0 : 0 ≤ n) (hn1 : n ≤ 1048576) :
    Calls Try.prog 108 #[v, .int .i64 n] w fun e w' => e = .returned (.int .i64 (szOf n l.length)) ∧ w = w' := by
  obtain ⟨a, cap, rfl, hlen, _⟩ := h.open
  unfold szOf
  go_enter Try.func108, Try.ntmps108
  go_wp2
  all_goals (go_ret; exact ⟨by simp [*], rfl⟩)
set_option maxHeartbeats 1000000 in
theorem toVersionS_any (l : List Ver) (v : Value) (w : World) (h : SL (RF Ver.enc) 3 w v l) (hn : l.length ≤ 1048576) :
    Calls Try.prog 114 #[v] w fun e w' => ∃ v', e = .returned v' ∧ Up w w' ∧ Own Ver.enc 88 3 w.heap.size w' v' l := by
  obtain ⟨a, cap, rfl, hlen, hc⟩ := h.open
  go_enter Try.func114, Try.ntmps114
  go_wp2_with (at_make; refine wpList_mk fVer rfl _ _ rfl l.length rfl rfl (by omega) (by omega) (Ext.refl _) ?_; intro z0 xs0 hown0)
  go_loopw [4] (fun s4 wr => ∃ (k : Nat) (xs : List Value), s4 = .int .i64 k ∧ k ≤ l.length ∧ Up w wr ∧ wr.ownsRow w.heap.size 88 3 (.slice (some ⟨w.heap.size, 0, none⟩) l.length l.length) l.length xs ∧ Filled Ver.enc 3 l k xs) (fun s4 _ => l.length - (intOf s4).toNat)
  case atStart => exact ⟨0, xs0, rfl, Nat.zero_le _, ⟨z0, rfl⟩, hown0, Filled.zero _ _ _ _⟩
  case round =>
    obtain ⟨k, xs, rfl, hk, ⟨z, rfl⟩, hown, hfill⟩ := hrel
    by_cases hlt : k < l.length
    · obtain ⟨x, hxk⟩ := getElem?_some_of_lt hlt
      obtain ⟨b, off, rfl, hb, hcc⟩ := hc k x hxk
      have c0 : w.cell? ⟨b, off + k * 3, none⟩ = some (.int .i64 x.k) := hcc 0 _ rfl
      have c1 : w.cell? ⟨b, off + k * 3 + 1, none⟩ = some (.int .i64 x.b) := hcc 1 _ rfl
      have c2 : w.cell? ⟨b, off + k * 3 + 2, none⟩ = some (.int .i64 x.v) := hcc 2 _ rfl
      have hxl : xs.length = l.length * 3 := hown.1
      obtain ⟨u0, hu0⟩ := getElem?_some_of_lt (show k * 3 < xs.length by omega)
      obtain ⟨u1, hu1⟩ := getElem?_some_of_lt (show k * 3 + 1 < xs.length by omega)
      obtain ⟨u2, hu2⟩ := getElem?_some_of_lt (show k * 3 + 2 < xs.length by omega)
      have d0 : z.val.cell? ⟨w.heap.size, k * 3, none⟩ = some u0 := (hown.cellAt _ (by omega)).trans hu0
      have f0 := hown.frozenAt (k * 3)
      have d1 : z.val.cell? ⟨w.heap.size, k * 3 + 1, none⟩ = some u1 := (hown.cellAt _ (by omega)).trans hu1
      have f1 := hown.frozenAt (k * 3 + 1)
      have d2 : z.val.cell? ⟨w.heap.size, k * 3 + 2, none⟩ = some u2 := (hown.cellAt _ (by omega)).trans hu2
      have f2 := hown.frozenAt (k * 3 + 2)
      have hL : LtS w.heap.size z.val := LtS.of_some d0
      have Hx := Lib.hid hxk; have Hown := Lib.hid hown; have Hf := Lib.hid hfill; have Hxl := Lib.hid hxl
      clear hc hcc hxk hown hfill hxl hu0 hu1 hu2
      go_wp2_with (go_at_call 154; refine (toVersion_any x _).mono ?_; rintro e w' ⟨rfl, z1, rfl⟩)
      go_roundw
      case rel => exact ⟨k + 1, setAll xs (k * 3) (Ver.enc x), by go_num, by omega, .of (Ext.setAll (Nat.le_refl _) (Ver.enc x) _ ((Ext.up (Ext.refl _) z).up z1)), ownsRow_setAll (Ver.enc x) _ (ownsRow_up Hown.out z1.ext), Hf.out.next Ver.enc_length Hx.out Hxl.out⟩
      case measure => simp [intOf]; omega
    · go_wp2_with fail
      go_ret
      obtain rfl : k = l.length := by omega
      refine ⟨_, rfl, ⟨z, rfl⟩, ?_⟩
      have e := Filled.all Ver.enc_length hown.1 hfill
      subst e
      exact hown
set_option maxHeartbeats 1000000 in
theorem eqVersionS_same (l : List Ver) (v v' : Value) (w : World) (h : SL (RF Ver.enc) 3 w v l) (h' : SL (RF Ver.enc) 3 w v' l) :
    Calls Try.prog 121 #[v, v'] w fun e w' => e = .returned (.bool true) ∧ Up w w' := by
  obtain ⟨a, cap, rfl, hlen, hc⟩ := h.open
  obtain ⟨a', cap', rfl, _, hc'⟩ := h'.open
  go_enter Try.func121, Try.ntmps121
  go_wp2_with fail
  go_loopw [5] (fun s5 wr => ∃ (k : Nat), s5 = .int .i64 k ∧ k ≤ l.length ∧ Up w wr) (fun s5 _ => l.length - (intOf s5).toNat)
  case atStart => exact ⟨0, rfl, Nat.zero_le _, .of (Ext.refl _)⟩
  case round =>
    obtain ⟨k, rfl, hk, ⟨z, rfl⟩⟩ := hrel
    by_cases hlt : k < l.length
    · obtain ⟨x, hxk⟩ := getElem?_some_of_lt hlt
      obtain ⟨b, off, rfl, hb, hcc⟩ := hc k x hxk
      obtain ⟨b', off', rfl, hb', hdd⟩ := hc' k x hxk
      have c0 : w.cell? ⟨b, off + k * 3, none⟩ = some (.int .i64 x.k) := hcc 0 _ rfl
      have c1 : w.cell? ⟨b, off + k * 3 + 1, none⟩ = some (.int .i64 x.b) := hcc 1 _ rfl
      have c2 : w.cell? ⟨b, off + k * 3 + 2, none⟩ = some (.int .i64 x.v) := hcc 2 _ rfl
      have d0 : w.cell? ⟨b', off' + k * 3, none⟩ = some (.int .i64 x.k) := hdd 0 _ rfl
      have d1 : w.cell? ⟨b', off' + k * 3 + 1, none⟩ = some (.int .i64 x.b) := hdd 1 _ rfl
      have d2 : w.cell? ⟨b', off' + k * 3 + 2, none⟩ = some (.int .i64 x.v) := hdd 2 _ rfl
      have k0 : (0 : Int) ≤ (k : Int) := by omega
      clear hc hcc hc' hdd hxk
      go_wp2_with fail
      (refine wp_region_up (by kernel_rfl) (by kernel_rfl) ?_; (repeat (go_big_quiet_step ((go_at_call 161; exact Calls.up (eqVersion_same x _))))); refine wpQuiet_nil ?_; intro _ hw'; obtain ⟨zq, hw''⟩ := hw'; subst hw'')
      go_wp2_with fail
      go_roundw
      case rel => exact ⟨k + 1, by go_num, by omega, (.of (by repeat (first | exact Ext.refl _ | refine Ext.up ?_ _ | refine Ext.alloc ?_ _ | refine Ext.drew ?_ | refine Ext.setRow ?_ (by first | (dsimp only; omega) | exact LeS.le | exact LeS.add _ | (simp; done) | (simp; omega)) _ | refine Ext.setCell ?_ (by first | (dsimp only; omega) | exact LeS.le | exact LeS.add _ | (simp; done) | (simp; omega)) _)))⟩
      case measure => simp [intOf]; omega
    · go_wp2_with fail
      go_ret
      exact ⟨rfl, z, rfl⟩
theorem szIntS_any (l : List Int) (v : Value) (n : Int) (w : World) (h : SL (RF encI) 1 w v l) (hn0 : 0 ≤ n) (hn1 : n ≤ 1048576) :
    Calls Try.prog 185 #[v, .int .i64 n] w fun e w' => e = .returned (.int .i64 (szOf n l.length)) ∧ w = w' := by
  obtain ⟨a, cap, rfl, hlen, _⟩ := h.open
  unfold szOf
  go_enter Try.func185, Try.ntmps185
  go_wp2
  all_goals (go_ret; exact ⟨by simp [*], rfl⟩)
set_option maxHeartbeats 1000000 in
theorem toIntS_any (l : List Int) (v : Value) (w : World) (h : SL (RF encI) 1 w v l) (hn : l.length ≤ 1048576) :
    Calls Try.prog 187 #[v] w fun e w' => ∃ v', e = .returned v' ∧ Up w w' ∧ Own encI 3 1 w.heap.size w' v' l := by
  obtain ⟨a, cap, rfl, hlen, hc⟩ := h.open
  go_enter Try.func187, Try.ntmps187
  go_wp2_with (at_make; refine wpList_mk fI rfl _ _ rfl l.length rfl rfl (by omega) (by omega) (Ext.refl _) ?_; intro z0 xs0 hown0)
  go_loopw [4] (fun s4 wr => ∃ (k : Nat) (xs : List Value), s4 = .int .i64 k ∧ k ≤ l.length ∧ Up w wr ∧ wr.ownsRow w.heap.size 3 1 (.slice (some ⟨w.heap.size, 0, none⟩) l.length l.length) l.length xs ∧ Filled encI 1 l k xs) (fun s4 _ => l.length - (intOf s4).toNat)
  case atStart => exact ⟨0, xs0, rfl, Nat.zero_le _, ⟨z0, rfl⟩, hown0, Filled.zero _ _ _ _⟩
  case round =>
    obtain ⟨k, xs, rfl, hk, ⟨z, rfl⟩, hown, hfill⟩ := hrel
    by_cases hlt : k < l.length
    · obtain ⟨x, hxk⟩ := getElem?_some_of_lt hlt
      obtain ⟨b, off, rfl, hb, hcc⟩ := hc k x hxk
      have c0 : w.cell? ⟨b, off + k, none⟩ = some (.int .i64 x) := by have := hcc 0 _ rfl; simpa using this
      have hxl : xs.length = l.length * 1 := hown.1
      obtain ⟨u0, hu0⟩ := getElem?_some_of_lt (show k < xs.length by omega)
      have d0 : z.val.cell? ⟨w.heap.size, k, none⟩ = some u0 := (hown.cellAt _ (by omega)).trans hu0
      have f0 := hown.frozenAt (k)
      have hL : LtS w.heap.size z.val := LtS.of_some d0
      have Hx := Lib.hid hxk; have Hown := Lib.hid hown; have Hf := Lib.hid hfill; have Hxl := Lib.hid hxl
      clear hc hcc hxk hown hfill hxl hu0
      go_wp2_with fail
      go_roundw
      case rel => exact ⟨k + 1, setAll xs (k) (encI x), by go_num, by omega, .of (Ext.setAll (Nat.le_refl _) (encI x) _ (Ext.up (Ext.refl _) z)), ownsRow_setAll (encI x) _ Hown.out, by have := Hf.out.next encI_length Hx.out Hxl.out; rwa [Nat.mul_one] at this⟩
      case measure => simp [intOf]; omega
    · go_wp2_with fail
      go_ret
      obtain rfl : k = l.length := by omega
      refine ⟨_, rfl, ⟨z, rfl⟩, ?_⟩
      have e := Filled.all encI_length hown.1 hfill
      subst e
      exact hown
set_option maxHeartbeats 1000000 in
theorem eqIntS_same (l : List Int) (v v' : Value) (w : World) (h : SL (RF encI) 1 w v l) (h' : SL (RF encI) 1 w v' l) :
    Calls Try.prog 190 #[v, v'] w fun e w' => e = .returned (.bool true) ∧ Up w w' := by
  obtain ⟨a, cap, rfl, hlen, hc⟩ := h.open
  obtain ⟨a', cap', rfl, _, hc'⟩ := h'.open
  go_enter Try.func190, Try.ntmps190
  go_wp2_with fail
  go_loopw [5] (fun s5 wr => ∃ (k : Nat), s5 = .int .i64 k ∧ k ≤ l.length ∧ Up w wr) (fun s5 _ => l.length - (intOf s5).toNat)
  case atStart => exact ⟨0, rfl, Nat.zero_le _, .of (Ext.refl _)⟩
  case round =>
    obtain ⟨k, rfl, hk, ⟨z, rfl⟩⟩ := hrel
    by_cases hlt : k < l.length
    · obtain ⟨x, hxk⟩ := getElem?_some_of_lt hlt
      obtain ⟨b, off, rfl, hb, hcc⟩ := hc k x hxk
      obtain ⟨b', off', rfl, hb', hdd⟩ := hc' k x hxk
      have c0 : w.cell? ⟨b, off + k, none⟩ = some (.int .i64 x) := by have := hcc 0 _ rfl; simpa using this
      have d0 : w.cell? ⟨b', off' + k, none⟩ = some (.int .i64 x) := by have := hdd 0 _ rfl; simpa using this
      have k0 : (0 : Int) ≤ (k : Int) := by omega
      clear hc hcc hc' hdd hxk
      go_wp2_with fail
      (refine wp_region_up (by kernel_rfl) (by kernel_rfl) ?_; (repeat (go_big_quiet_step (fail))); refine wpQuiet_nil ?_; intro _ hw'; obtain ⟨zq, hw''⟩ := hw'; subst hw'')
      go_wp2_with fail
      go_roundw
      case rel => exact ⟨k + 1, by go_num, by omega, (.of (by repeat (first | exact Ext.refl _ | refine Ext.up ?_ _ | refine Ext.alloc ?_ _ | refine Ext.drew ?_ | refine Ext.setRow ?_ (by first | (dsimp only; omega) | exact LeS.le | exact LeS.add _ | (simp; done) | (simp; omega)) _ | refine Ext.setCell ?_ (by first | (dsimp only; omega) | exact LeS.le | exact LeS.add _ | (simp; done) | (simp; omega)) _)))⟩
      case measure => simp [intOf]; omega
    · go_wp2_with fail
      go_ret
      exact ⟨rfl, z, rfl⟩
end Go.Proofs.Ytkboefmkfpnpjaa
namespace Go.Proofs.Ytkboefmkfpnpjaa
open Go Go.RowKit

/-- out = append(out, x), x's cells in the block that was made last. -/
theorem wpList_push1 {P : Program} {t e sz bytes : Nat} (F : AppFacts P t e sz bytes) {ops : Array Oper} {rest : List Oper} {o : Oper} {a : Act} {Q : Exit → Act → World → Prop} (hgd : o.guard = none) (s x : Operand)
    (ho : o.op = .call { callee := .builtin .append, args := #[s, x], argTypes := #[t, t] }) {α : Type} (enc : α → List Value) (Wb : World) {W1 : World} {cs : Array Value} {e' : TypeId} (y : α) (l : List α) {v : Value} (hs : a.eval s = v)
    (hown : Own enc e sz Wb.heap.size W1 v l) (hE : Ext Wb W1) {g : Nat} (hx : a.eval x = .slice (some ⟨g, 0, none⟩) 1 1) (hg : g = W1.heap.size) (hcs : cs.toList = enc y) (hl : (enc y).length = sz)
    (h1 : ∀ u ∈ enc y, u.oneCell' = true) (hb : (l.length + 1) * bytes ≤ 140737488355328) (hb' : l.length + 1 ≤ 9223372036854775807)
    (h : ∀ v' (z1 : Extd Wb), Own enc e sz Wb.heap.size z1.val v' (l ++ [y]) → wpList P ops Q rest (a.put o.dst v') z1.val) : wpList P ops Q (o :: rest) a (W1.alloc (.cells cs e')) := by
  subst hg
  refine wpList_push F hgd s x ho enc Wb y l hs (hown.up ((Ext.refl _).alloc _)) (hE.alloc _) hx hl (fun j u hu => ?_) h1 hb hb' h
  have e1 : (⟨W1.heap.size, 0, none⟩ : Addr).add j = ⟨W1.heap.size, j, none⟩ := by unfold Addr.add; split <;> simp_all
  rw [e1, cell_of_row _ W1.heap.size j cs e' (0, 0) (heap_alloc_new W1 _), ← Array.getElem?_toList, hcs]
  exact hu
theorem Own.kept {α : Type} {enc : α → List Value} {e sz lo : Nat} {w w' : World} {v : Value} {l : List α} {row : Option Nat} (h : Own enc e sz lo w v l) (hg : w.grownBy w' row) (hne : v.ownBlock = none ∨ v.ownBlock ≠ row) : Own enc e sz lo w' v l := World.ownsRow.kept h hg hne
/-- Of two slices the one was there before the other was begun: they share no block. -/
theorem Own.apart {α β : Type} {enc : α → List Value} {enc' : β → List Value} {e sz lo e' sz' lo' : Nat} {w w' : World} {v v' : Value} {l : List α} {l' : List β} (h : Own enc e sz lo w v l) (h' : Own enc' e' sz' lo' w' v' l') (hlt : w.heap.size ≤ lo') : v.ownBlock ≠ v'.ownBlock ∨ v.ownBlock = none := by
  cases hv : v.ownBlock with
  | none => exact .inr rfl
  | some k =>
    left
    intro e
    have h1 := (World.ownsRow.lt h k hv).2
    have h2 := (World.ownsRow.lt h' k e.symm).1
    omega
theorem Own.after {α β : Type} {enc : α → List Value} {enc' : β → List Value} {e sz lo e' sz' lo' : Nat} {w w' : World} {v v' : Value} {l : List α} {l' : List β} (h : Own enc e sz lo w v l) (h' : Own enc' e' sz' lo' w' v' l') (hlt : w'.heap.size ≤ lo) : v.ownBlock = none ∨ v.ownBlock ≠ v'.ownBlock := by
  cases hv : v.ownBlock with
  | none => exact .inl rfl
  | some k =>
    right
    intro e
    have h1 := (World.ownsRow.lt h k hv).1
    have h2 := (World.ownsRow.lt h' k e.symm).2
    omega
theorem Own.ext_grown {α : Type} {enc : α → List Value} {e sz lo : Nat} {a w w' : World} {v : Value} {l : List α} (h : Own enc e sz lo w v l) (hE : Ext a w) (hlo : a.heap.size ≤ lo) (hg : w.grownBy w' v.ownBlock) : Ext a w' :=
  hE.grown hg (fun k hk => Nat.le_trans hlo (World.ownsRow.lt h k hk).1)
theorem oneV (x : Ver) : ∀ u ∈ x.enc, u.oneCell' = true := by simp [Ver.enc, Value.oneCell']
theorem oneE (x : Ent) : ∀ u ∈ x.enc, u.oneCell' = true := by simp [Ent.enc, Value.oneCell']
theorem oneA (x : Actn) : ∀ u ∈ x.enc, u.oneCell' = true := by simp [Actn.enc, Value.oneCell']
theorem oneI (x : Int) : ∀ u ∈ encI x, u.oneCell' = true := by simp [encI, Value.oneCell']
end Go.Proofs.Ytkboefmkfpnpjaa
