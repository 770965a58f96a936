/- Ground for the rows of this seat: the program's closed facts; the decoders of the laws' parameter types. Walks: the small functions on numbers. Walks: sizes, copies, comparisons and marks of slices of flat elements (the laws' helpers). Plain facts on bits of an int64. Plain laws: actions: which keys they read and write; masks of keys. -/
import Derived.Test.YteiemjebdhmnaaaGreatRows
import Derived.Test.YteiemjebdhmnaaaGreatGLxTop00
import Derived.Test.YteiemjebdhmnaaaGreatProg
set_option linter.unusedSimpArgs false
set_option linter.unusedVariables false
namespace Go.Proofs.YteiemjebdhmnaaaGreat
open Go.ChangeShapes Go.WideShapes Go.ChangeAt Go.RowKit

theorem Tryz.own : ownKnob Tryz.prog.godebug = none := by kernel_rfl
theorem Tryz.laidOut : laidOutB Tryz.prog = true := by kernel_rfl
theorem Tryz.c_int : Tryz.prog.cellsOf 3 = 1 := by kernel_rfl

set_option maxRecDepth 100000 in
theorem dec_Entry : Dec Tryz.prog 123 2 (RF Ent.enc) := by
  intro H enc W sp held fuel cs x h
  obtain ⟨hl, hf⟩ := trod_fields Tryz.underlying123 h
  have hl2 : cs.length = 2 := hl.trans (by kernel_rfl)
  refine ⟨hl2, ?_⟩
  match cs, hl2 with
  | [a, b], _ =>
    obtain ⟨n0, y0, h0⟩ := hf 0 _ rfl
    obtain ⟨n1, y1, h1⟩ := hf 1 _ rfl
    obtain ⟨_, x0, e0, _⟩ := dec_int Tryz.underlying3 _ enc W sp held _ _ _ h0
    obtain ⟨_, x1, e1, _⟩ := dec_int Tryz.underlying3 _ enc W sp held _ _ _ h1
    simp [Tryz.c_int] at e0 e1
    exact ⟨⟨x0, x1⟩, by simp [RF, Ent.enc, e0, e1]⟩
theorem dec_EntryS : Dec Tryz.prog 39 1 (RSl (RF Ent.enc) 2) := dec_slice Tryz.underlying39 (by kernel_rfl) (by decide) dec_Entry
set_option maxRecDepth 100000 in
theorem dec_Action : Dec Tryz.prog 152 4 (RF Actn.enc) := by
  intro H enc W sp held fuel cs x h
  obtain ⟨hl, hf⟩ := trod_fields Tryz.underlying152 h
  have hl4 : cs.length = 4 := hl.trans (by kernel_rfl)
  refine ⟨hl4, ?_⟩
  match cs, hl4 with
  | [a, b, c, d], _ =>
    obtain ⟨n0, y0, h0⟩ := hf 0 _ rfl
    obtain ⟨n1, y1, h1⟩ := hf 1 _ rfl
    obtain ⟨n2, y2, h2⟩ := hf 2 _ rfl
    obtain ⟨n3, y3, h3⟩ := hf 3 _ rfl
    obtain ⟨_, x0, e0, _⟩ := dec_int Tryz.underlying3 _ enc W sp held _ _ _ h0
    obtain ⟨_, x1, e1, _⟩ := dec_int Tryz.underlying3 _ enc W sp held _ _ _ h1
    obtain ⟨_, x2, e2, _⟩ := dec_int Tryz.underlying3 _ enc W sp held _ _ _ h2
    obtain ⟨_, x3, e3, _⟩ := dec_int Tryz.underlying3 _ enc W sp held _ _ _ h3
    simp [Tryz.c_int] at e0 e1 e2 e3
    exact ⟨⟨x0, x1, x2, x3⟩, by simp [RF, Actn.enc, e0, e1, e2, e3]⟩
theorem dec_ActionS : Dec Tryz.prog 119 1 (RSl (RF Actn.enc) 4) := dec_slice Tryz.underlying119 (by kernel_rfl) (by decide) dec_Action
theorem dec_Int : Dec Tryz.prog 3 1 RInt := dec_int Tryz.underlying3
theorem dec_IntF : Dec Tryz.prog 3 1 (RF encI) := by
  intro H enc W sp held fuel cs x h
  obtain ⟨h1, n, h2, _⟩ := dec_Int H enc W sp held fuel cs x h
  exact ⟨h1, n, h2⟩
theorem dec_IntS : Dec Tryz.prog 25 1 (RSl (RF encI) 1) := dec_slice Tryz.underlying25 (by kernel_rfl) (by decide) dec_IntF
set_option maxRecDepth 100000 in
theorem open_sl {α : Type} {t e sz : Nat} {R : World → List Value → α → Prop} (hd : Dec Tryz.prog t 1 (RSl R sz)) (ht : Tryz.prog.underlying t = some (.slice e)) {H : Type} {enc : TypeId × Value → H} {W : World} {sp : Nat → Bool} {held : Bool} {v : Value} {d : DataW H} {ps : List MemPlace} {r : Reach} {b0 : Nat}
    (hok : Value.okWide Tryz.prog W r b0 t v) (h : DataW.Trod enc Tryz.prog W 0 sp held t v d ps) : ∃ l, SL R sz W v l := by
  obtain ⟨a, len, cap, rfl⟩ := okWide_slice ht hok
  obtain ⟨l, v', e, hl⟩ := hd.one (fun _ h => by cases h) h
  cases e; exact ⟨l, hl⟩
set_option maxRecDepth 100000 in
theorem open_i {H : Type} {enc : TypeId × Value → H} {W : World} {sp : Nat → Bool} {held : Bool} {v : Value} {d : DataW H} {ps : List MemPlace} {r : Reach} {b0 : Nat}
    (hok : Value.okWide Tryz.prog W r b0 3 v) (h : DataW.Trod enc Tryz.prog W 0 sp held 3 v d ps) : ∃ n, v = .int .i64 n ∧ I64 n := by
  obtain ⟨x, rfl, _, _, wx⟩ := open_int Tryz.underlying3 hok h
  exact ⟨x, rfl, I64.of_wf wx⟩
end Go.Proofs.YteiemjebdhmnaaaGreat
namespace Go.Proofs.YteiemjebdhmnaaaGreat
open Go Go.RowKit Go.Proofs
theorem in_any (n lo hi : Int) (w : World) : Calls Tryz.prog 43 #[.int .i64 n, .int .i64 lo, .int .i64 hi] w fun e w' => e = .returned (.bool (inR n lo hi)) ∧ w = w' := by
  unfold inR
  by_cases h : lo ≤ n
  · go_enter Tryz.func43, Tryz.ntmps43
    go_wp2
    go_ret; exact ⟨by simp [h], rfl⟩
  · have h' : decide (lo ≤ n) = false := by simpa using h
    go_enter Tryz.func43, Tryz.ntmps43
    go_wp2
    go_ret; exact ⟨by simp, rfl⟩
theorem l1In_any (n lo hi : Int) (w : World) : Calls Tryz.prog 31 #[.int .i64 n, .int .i64 lo, .int .i64 hi] w fun e w' => e = .returned (.bool (inR n lo hi)) ∧ w = w' := by
  unfold inR
  by_cases h : lo ≤ n
  · go_enter Tryz.func31, Tryz.ntmps31
    go_wp2
    go_ret; exact ⟨by simp [h], rfl⟩
  · have h' : decide (lo ≤ n) = false := by simpa using h
    go_enter Tryz.func31, Tryz.ntmps31
    go_wp2
    go_ret; exact ⟨by simp, rfl⟩
theorem isKey_any (n : Int) (w : World) : Calls Tryz.prog 137 #[.int .i64 n] w fun e w' => e = .returned (.bool (inR n 0 31)) ∧ w = w' := by
  go_enter Tryz.func137, Tryz.ntmps137
  go_wp2_with (go_at_call 43; refine (in_any _ _ _ _).mono ?_; rintro e w' ⟨rfl, rfl⟩)
  go_ret
  exact ⟨rfl, rfl⟩
theorem isValue_any (n : Int) (w : World) : Calls Tryz.prog 138 #[.int .i64 n] w fun e w' => e = .returned (.bool (inR n 0 1000000)) ∧ w = w' := by
  go_enter Tryz.func138, Tryz.ntmps138
  go_wp2_with (go_at_call 43; refine (in_any _ _ _ _).mono ?_; rintro e w' ⟨rfl, rfl⟩)
  go_ret
  exact ⟨rfl, rfl⟩
theorem isSum_any (n : Int) (w : World) : Calls Tryz.prog 124 #[.int .i64 n] w fun e w' => e = .returned (.bool (inR n 0 1000002)) ∧ w = w' := by
  go_enter Tryz.func124, Tryz.ntmps124
  go_wp2_with (go_at_call 43; refine (in_any _ _ _ _).mono ?_; rintro e w' ⟨rfl, rfl⟩)
  go_ret
  exact ⟨rfl, rfl⟩
theorem isView_any (n : Int) (w : World) : Calls Tryz.prog 125 #[.int .i64 n] w fun e w' => e = .returned (.bool (inR n 0 1000)) ∧ w = w' := by
  go_enter Tryz.func125, Tryz.ntmps125
  go_wp2_with (go_at_call 43; refine (in_any _ _ _ _).mono ?_; rintro e w' ⟨rfl, rfl⟩)
  go_ret
  exact ⟨rfl, rfl⟩
theorem isSummed_any (n : Int) (w : World) : Calls Tryz.prog 85 #[.int .i64 n] w fun e w' => e = .returned (.bool (inR n 0 2000000)) ∧ w = w' := by
  go_enter Tryz.func85, Tryz.ntmps85
  go_wp2_with (go_at_call 43; refine (in_any _ _ _ _).mono ?_; rintro e w' ⟨rfl, rfl⟩)
  go_ret
  exact ⟨rfl, rfl⟩
end Go.Proofs.YteiemjebdhmnaaaGreat
namespace Go.Proofs.YteiemjebdhmnaaaGreat
open Go Go.RowKit Go.Proofs
theorem fI : AppFacts Tryz.prog 25 3 1 8 := by
  have h : (Tryz.prog.info? 3).map (fun i => (i.zero, i.size, i.bytes)) = some (some (.int .i64 0), 1, 8) := by kernel_rfl
  obtain ⟨i0, hi, hz0, hz1, hz2⟩ := info_parts h
  exact ⟨Tryz.underlying25, ⟨i0, _, hi, hz0, hz1, hz2, rfl⟩, by decide⟩
theorem fEnt : AppFacts Tryz.prog 23 64 2 16 := by
  have h : (Tryz.prog.info? 64).map (fun i => (i.zero, i.size, i.bytes)) = some (some (.agg #[.int .i64 0, .int .i64 0]), 2, 16) := by kernel_rfl
  obtain ⟨i0, hi, hz0, hz1, hz2⟩ := info_parts h
  exact ⟨Tryz.underlying23, ⟨i0, _, hi, hz0, hz1, hz2, rfl⟩, by decide⟩
theorem fActn : AppFacts Tryz.prog 52 106 4 32 := by
  have h : (Tryz.prog.info? 106).map (fun i => (i.zero, i.size, i.bytes)) = some (some (.agg #[.int .i64 0, .int .i64 0, .int .i64 0, .int .i64 0]), 4, 32) := by kernel_rfl
  obtain ⟨i0, hi, hz0, hz1, hz2⟩ := info_parts h
  exact ⟨Tryz.underlying52, ⟨i0, _, hi, hz0, hz1, hz2, rfl⟩, by decide⟩
theorem toEntry_any (x : Ent) (w : World) : Calls Tryz.prog 89 #[.agg #[.int .i64 x.k, .int .i64 x.v]] w fun e w' => e = .returned (.agg #[.int .i64 x.k, .int .i64 x.v]) ∧ Up w w' := by
  go_enter Tryz.func89, Tryz.ntmps89
  go_wp2_with fail
  refine bodyPost_ret (v := .agg #[.int .i64 x.k, .int .i64 x.v]) (by simp [results, Tryz.results89, go_sem]) rfl ?_
  exact ⟨rfl, (.of (by repeat (first | exact Ext.refl _ | refine Ext.up ?_ _ | refine Ext.alloc ?_ _ | refine Ext.drew ?_ | refine Ext.setRow ?_ (by first | (dsimp only; omega) | exact LeS.le | exact LeS.add _ | (simp; done) | (simp; omega)) _ | refine Ext.setCell ?_ (by first | (dsimp only; omega) | exact LeS.le | exact LeS.add _ | (simp; done) | (simp; omega)) _)))⟩
theorem eqEntry_same (x : Ent) (w : World) : Calls Tryz.prog 91 #[.agg #[.int .i64 x.k, .int .i64 x.v], .agg #[.int .i64 x.k, .int .i64 x.v]] w fun e w' => e = .returned (.bool true) ∧ Up w w' := by
  go_enter Tryz.func91, Tryz.ntmps91
  go_wp2
  go_ret
  exact ⟨rfl, (.of (by repeat (first | exact Ext.refl _ | refine Ext.up ?_ _ | refine Ext.alloc ?_ _ | refine Ext.drew ?_ | refine Ext.setRow ?_ (by first | (dsimp only; omega) | exact LeS.le | exact LeS.add _ | (simp; done) | (simp; omega)) _ | refine Ext.setCell ?_ (by first | (dsimp only; omega) | exact LeS.le | exact LeS.add _ | (simp; done) | (simp; omega)) _)))⟩
theorem szEntryS_any (l : List Ent) (v : Value) (n : Int) (w : World) (h : SL (RF Ent.enc) 2 w v l) (hn0 : 0 ≤ n) (hn1 : n ≤ 1048576) :
    Calls Tryz.prog 45 #[v, .int .i64 n] w fun e w' => e = .returned (.int .i64 (szOf n l.length)) ∧ w = w' := by
  obtain ⟨a, cap, rfl, hlen, _⟩ := h.open
  unfold szOf
  go_enter Tryz.func45, Tryz.ntmps45
  go_wp2
  all_goals (go_ret; exact ⟨by simp [*], rfl⟩)
set_option maxHeartbeats 1000000 in
theorem toEntryS_any (l : List Ent) (v : Value) (w : World) (h : SL (RF Ent.enc) 2 w v l) (hn : l.length ≤ 1048576) :
    Calls Tryz.prog 48 #[v] w fun e w' => ∃ v', e = .returned v' ∧ Up w w' ∧ Own Ent.enc 64 2 w.heap.size w' v' l := by
  obtain ⟨a, cap, rfl, hlen, hc⟩ := h.open
  go_enter Tryz.func48, Tryz.ntmps48
  go_wp2_with (at_make; refine wpList_mk fEnt rfl _ _ rfl l.length rfl rfl (by omega) (by omega) (Ext.refl _) ?_; intro z0 xs0 hown0)
  go_loopw [4] (fun s4 wr => ∃ (k : Nat) (xs : List Value), s4 = .int .i64 k ∧ k ≤ l.length ∧ Up w wr ∧ wr.ownsRow w.heap.size 64 2 (.slice (some ⟨w.heap.size, 0, none⟩) l.length l.length) l.length xs ∧ Filled Ent.enc 2 l k xs) (fun s4 _ => l.length - (intOf s4).toNat)
  case atStart => exact ⟨0, xs0, rfl, Nat.zero_le _, ⟨z0, rfl⟩, hown0, Filled.zero _ _ _ _⟩
  case round =>
    obtain ⟨k, xs, rfl, hk, ⟨z, rfl⟩, hown, hfill⟩ := hrel
    by_cases hlt : k < l.length
    · obtain ⟨x, hxk⟩ := getElem?_some_of_lt hlt
      obtain ⟨b, off, rfl, hb, hcc⟩ := hc k x hxk
      have c0 : w.cell? ⟨b, off + k * 2, none⟩ = some (.int .i64 x.k) := hcc 0 _ rfl
      have c1 : w.cell? ⟨b, off + k * 2 + 1, none⟩ = some (.int .i64 x.v) := hcc 1 _ rfl
      have hxl : xs.length = l.length * 2 := hown.1
      obtain ⟨u0, hu0⟩ := getElem?_some_of_lt (show k * 2 < xs.length by omega)
      obtain ⟨u1, hu1⟩ := getElem?_some_of_lt (show k * 2 + 1 < xs.length by omega)
      have d0 : z.val.cell? ⟨w.heap.size, k * 2, none⟩ = some u0 := (hown.cellAt _ (by omega)).trans hu0
      have f0 := hown.frozenAt (k * 2)
      have d1 : z.val.cell? ⟨w.heap.size, k * 2 + 1, none⟩ = some u1 := (hown.cellAt _ (by omega)).trans hu1
      have f1 := hown.frozenAt (k * 2 + 1)
      have hL : LtS w.heap.size z.val := LtS.of_some d0
      have Hx := Lib.hid hxk; have Hown := Lib.hid hown; have Hf := Lib.hid hfill; have Hxl := Lib.hid hxl
      clear hc hcc hxk hown hfill hxl hu0 hu1
      go_wp2_with (go_at_call 89; refine (toEntry_any x _).mono ?_; rintro e w' ⟨rfl, z1, rfl⟩)
      go_roundw
      case rel => exact ⟨k + 1, setAll xs (k * 2) (Ent.enc x), by go_num, by omega, .of (Ext.setAll (Nat.le_refl _) (Ent.enc x) _ ((Ext.up (Ext.refl _) z).up z1)), ownsRow_setAll (Ent.enc x) _ (ownsRow_up Hown.out z1.ext), Hf.out.next Ent.enc_length Hx.out Hxl.out⟩
      case measure => simp [intOf]; omega
    · go_wp2_with fail
      go_ret
      obtain rfl : k = l.length := by omega
      refine ⟨_, rfl, ⟨z, rfl⟩, ?_⟩
      have e := Filled.all Ent.enc_length hown.1 hfill
      subst e
      exact hown
set_option maxHeartbeats 1000000 in
theorem eqEntryS_same (l : List Ent) (v v' : Value) (w : World) (h : SL (RF Ent.enc) 2 w v l) (h' : SL (RF Ent.enc) 2 w v' l) :
    Calls Tryz.prog 52 #[v, v'] w fun e w' => e = .returned (.bool true) ∧ Up w w' := by
  obtain ⟨a, cap, rfl, hlen, hc⟩ := h.open
  obtain ⟨a', cap', rfl, _, hc'⟩ := h'.open
  go_enter Tryz.func52, Tryz.ntmps52
  go_wp2_with fail
  go_loopw [5] (fun s5 wr => ∃ (k : Nat), s5 = .int .i64 k ∧ k ≤ l.length ∧ Up w wr) (fun s5 _ => l.length - (intOf s5).toNat)
  case atStart => exact ⟨0, rfl, Nat.zero_le _, .of (Ext.refl _)⟩
  case round =>
    obtain ⟨k, rfl, hk, ⟨z, rfl⟩⟩ := hrel
    by_cases hlt : k < l.length
    · obtain ⟨x, hxk⟩ := getElem?_some_of_lt hlt
      obtain ⟨b, off, rfl, hb, hcc⟩ := hc k x hxk
      obtain ⟨b', off', rfl, hb', hdd⟩ := hc' k x hxk
      have c0 : w.cell? ⟨b, off + k * 2, none⟩ = some (.int .i64 x.k) := hcc 0 _ rfl
      have c1 : w.cell? ⟨b, off + k * 2 + 1, none⟩ = some (.int .i64 x.v) := hcc 1 _ rfl
      have d0 : w.cell? ⟨b', off' + k * 2, none⟩ = some (.int .i64 x.k) := hdd 0 _ rfl
      have d1 : w.cell? ⟨b', off' + k * 2 + 1, none⟩ = some (.int .i64 x.v) := hdd 1 _ rfl
      have k0 : (0 : Int) ≤ (k : Int) := by omega
      clear hc hcc hc' hdd hxk
      go_wp2_with fail
      (refine wp_region_up (by kernel_rfl) (by kernel_rfl) ?_; (repeat (go_big_quiet_step ((go_at_call 91; exact Calls.up (eqEntry_same x _))))); refine wpQuiet_nil ?_; intro _ hw'; obtain ⟨zq, hw''⟩ := hw'; subst hw'')
      go_wp2_with fail
      go_roundw
      case rel => exact ⟨k + 1, by go_num, by omega, (.of (by repeat (first | exact Ext.refl _ | refine Ext.up ?_ _ | refine Ext.alloc ?_ _ | refine Ext.drew ?_ | refine Ext.setRow ?_ (by first | (dsimp only; omega) | exact LeS.le | exact LeS.add _ | (simp; done) | (simp; omega)) _ | refine Ext.setCell ?_ (by first | (dsimp only; omega) | exact LeS.le | exact LeS.add _ | (simp; done) | (simp; omega)) _)))⟩
      case measure => simp [intOf]; omega
    · go_wp2_with fail
      go_ret
      exact ⟨rfl, z, rfl⟩
set_option maxHeartbeats 1000000 in
theorem markEntryS_any (lo : Nat) (l : List Ent) (v : Value) (m : Int) (w : World) (h : Own Ent.enc 64 2 lo w v l) (hm0 : 0 ≤ m) (hm1 : m ≤ 1000000000) (hn : l.length ≤ 1073741824) :
    Calls Tryz.prog 55 #[v, .int .i64 m] w fun e w' => e = .returned (.int .i64 (m + 2 * l.length)) ∧ w.grownBy w' v.ownBlock ∧ Own Ent.enc 64 2 lo w' v (marksEnt m l.length) := by
  have h0 : w.ownsRow lo 64 2 v l.length (l.flatMap Ent.enc) := h
  rcases h.2 with ⟨rfl, hn0⟩ | ⟨g, cap, cur, hv, _⟩
  · have : l = [] := List.eq_nil_of_length_eq_zero hn0
    subst this
    go_enter Tryz.func55, Tryz.ntmps55
    go_wp2
    refine wp_loop_rounds 1 ?_; rw [rounds_succ]
    go_wp2
    go_ret
    exact ⟨by simp, ⟨rfl, rfl, rfl, Nat.le_refl _, fun _ _ _ => rfl⟩, h⟩
  subst hv
  clear h
  have hcl : l.length ≤ 9223372036854775807 := by omega
  go_enter Tryz.func55, Tryz.ntmps55
  go_wp2_with fail
  go_loopw [1, 5] (fun s1 s5 wr => ∃ (k : Nat) (xs : List Value), s5 = .int .i64 k ∧ s1 = .int .i64 (m + 2 * k) ∧ k ≤ l.length ∧ w.grownBy wr (some g) ∧ wr.ownsRow lo 64 2 (.slice (some ⟨g, 0, none⟩) l.length cap) l.length xs ∧ Filled Ent.enc 2 (marksEnt m l.length) k xs) (fun _ s5 _ => l.length - (intOf s5).toNat)
  case atStart => exact ⟨0, _, rfl, by simp, Nat.zero_le _, ⟨rfl, rfl, rfl, Nat.le_refl _, fun _ _ _ => rfl⟩, h0, Filled.zero _ _ _ _⟩
  case round =>
    obtain ⟨k, xs, rfl, rfl, hk, hg, hown, hfill⟩ := hrel
    by_cases hlt : k < l.length
    · have hxl : xs.length = l.length * 2 := hown.1
      obtain ⟨u0, hu0⟩ := getElem?_some_of_lt (show k * 2 < xs.length by omega)
      obtain ⟨u1, hu1⟩ := getElem?_some_of_lt (show k * 2 + 1 < xs.length by omega)
      have d0 : wr.cell? ⟨g, k * 2, none⟩ = some u0 := (hown.cellAt _ (by omega)).trans hu0
      have f0 := hown.frozenAt (k * 2)
      have d1 : wr.cell? ⟨g, k * 2 + 1, none⟩ = some u1 := (hown.cellAt _ (by omega)).trans hu1
      have f1 := hown.frozenAt (k * 2 + 1)
      have hL : LtS g wr := LtS.of_some d0
      have hO := Lib.hid hown; have hF := Lib.hid hfill; have hXl := Lib.hid hxl; have hG := Lib.hid hg; have hH := Lib.hid h0
      clear hown hfill hxl hg h0 hu0 hu1
      go_wp2_with fail
      go_roundw
      case rel => exact ⟨k + 1, setAll xs (k * 2) (Ent.enc ⟨m + 2 * k, m + 2 * k + 1⟩), by go_num, by go_num, by omega, World.grownBy.setAll ([.int .i64 (m + 2 * k), .int .i64 (m + 2 * k + 1)]) (k * 2) hG.out, ownsRow_setAll ([.int .i64 (m + 2 * k), .int .i64 (m + 2 * k + 1)]) (k * 2) hO.out, hF.out.next Ent.enc_length (marksEnt_get hlt) (by rw [marksEnt_length]; exact hXl.out)⟩
      case measure => simp [intOf]; omega
    · go_wp2_with fail
      go_ret
      obtain rfl : k = l.length := by omega
      refine ⟨rfl, hg, ?_⟩
      have e := Filled.all (l := marksEnt m l.length) Ent.enc_length (by rw [marksEnt_length]; exact hown.1) (by rw [marksEnt_length]; exact hfill)
      subst e
      show World.ownsRow _ _ _ _ _ _ _
      rw [marksEnt_length]
      exact hown
set_option maxHeartbeats 1000000 in
theorem heldEntryS_marks (n : Nat) (v : Value) (m : Int) (w : World) (h : SL (RF Ent.enc) 2 w v (marksEnt m n)) (hm0 : 0 ≤ m) (hm1 : m ≤ 1000000000) (hn : n ≤ 1073741824) :
    Calls Tryz.prog 58 #[v, .int .i64 m] w fun e w' => e = .returned (.int .i64 (m + 2 * n)) ∧ w = w' := by
  obtain ⟨a, cap, rfl, _, hc⟩ := h.open
  rw [marksEnt_length]
  go_enter Tryz.func58, Tryz.ntmps58
  go_wp2_with fail
  go_loop [1, 5] (fun s1 s5 => ∃ (k : Nat), s5 = .int .i64 k ∧ s1 = .int .i64 (m + 2 * k) ∧ k ≤ n) (fun _ s5 => n - (intOf s5).toNat)
  case atStart => exact ⟨0, rfl, by simp, Nat.zero_le _⟩
  case round =>
    obtain ⟨k, rfl, rfl, hk⟩ := hrel
    by_cases hlt : k < n
    · obtain ⟨b, off, rfl, hb, hcc⟩ := hc k _ (marksEnt_get hlt)
      have c0 : w.cell? ⟨b, off + k * 2, none⟩ = some (.int .i64 (m + 2 * k)) := hcc 0 _ rfl
      have c1 : w.cell? ⟨b, off + k * 2 + 1, none⟩ = some (.int .i64 (m + 2 * k + 1)) := hcc 1 _ rfl
      clear hc hcc
      go_wp2_with fail
      go_round
      case rel => exact ⟨k + 1, by go_num, by go_num, by omega⟩
      case measure => simp [intOf]; omega
    · go_wp2_with fail
      go_ret
      obtain rfl : k = n := by omega
      exact ⟨rfl, rfl⟩
theorem toAction_any (x : Actn) (w : World) : Calls Tryz.prog 130 #[.agg #[.int .i64 x.kind, .int .i64 x.src, .int .i64 x.dst, .int .i64 x.amt]] w fun e w' => e = .returned (.agg #[.int .i64 x.kind, .int .i64 x.src, .int .i64 x.dst, .int .i64 x.amt]) ∧ Up w w' := by
  go_enter Tryz.func130, Tryz.ntmps130
  go_wp2_with fail
  refine bodyPost_ret (v := .agg #[.int .i64 x.kind, .int .i64 x.src, .int .i64 x.dst, .int .i64 x.amt]) (by simp [results, Tryz.results130, go_sem]) rfl ?_
  exact ⟨rfl, (.of (by repeat (first | exact Ext.refl _ | refine Ext.up ?_ _ | refine Ext.alloc ?_ _ | refine Ext.drew ?_ | refine Ext.setRow ?_ (by first | (dsimp only; omega) | exact LeS.le | exact LeS.add _ | (simp; done) | (simp; omega)) _ | refine Ext.setCell ?_ (by first | (dsimp only; omega) | exact LeS.le | exact LeS.add _ | (simp; done) | (simp; omega)) _)))⟩
theorem eqAction_same (x : Actn) (w : World) : Calls Tryz.prog 131 #[.agg #[.int .i64 x.kind, .int .i64 x.src, .int .i64 x.dst, .int .i64 x.amt], .agg #[.int .i64 x.kind, .int .i64 x.src, .int .i64 x.dst, .int .i64 x.amt]] w fun e w' => e = .returned (.bool true) ∧ Up w w' := by
  go_enter Tryz.func131, Tryz.ntmps131
  go_wp2
  go_ret
  exact ⟨rfl, (.of (by repeat (first | exact Ext.refl _ | refine Ext.up ?_ _ | refine Ext.alloc ?_ _ | refine Ext.drew ?_ | refine Ext.setRow ?_ (by first | (dsimp only; omega) | exact LeS.le | exact LeS.add _ | (simp; done) | (simp; omega)) _ | refine Ext.setCell ?_ (by first | (dsimp only; omega) | exact LeS.le | exact LeS.add _ | (simp; done) | (simp; omega)) _)))⟩
theorem szActionS_any (l : List Actn) (v : Value) (n : Int) (w : World) (h : SL (RF Actn.enc) 4 w v l) (hn0 : 0 ≤ n) (hn1 : n ≤ 1048576) :
    Calls Tryz.prog 119 #[v, .int .i64 n] w fun e w' => e = .returned (.int .i64 (szOf n l.length)) ∧ w = w' := by
  obtain ⟨a, cap, rfl, hlen, _⟩ := h.open
  unfold szOf
  go_enter Tryz.func119, Tryz.ntmps119
  go_wp2
  all_goals (go_ret; exact ⟨by simp [*], rfl⟩)
set_option maxHeartbeats 1000000 in
theorem toActionS_any (l : List Actn) (v : Value) (w : World) (h : SL (RF Actn.enc) 4 w v l) (hn : l.length ≤ 1048576) :
    Calls Tryz.prog 120 #[v] w fun e w' => ∃ v', e = .returned v' ∧ Up w w' ∧ Own Actn.enc 106 4 w.heap.size w' v' l := by
  obtain ⟨a, cap, rfl, hlen, hc⟩ := h.open
  go_enter Tryz.func120, Tryz.ntmps120
  go_wp2_with (at_make; refine wpList_mk fActn rfl _ _ rfl l.length rfl rfl (by omega) (by omega) (Ext.refl _) ?_; intro z0 xs0 hown0)
  go_loopw [4] (fun s4 wr => ∃ (k : Nat) (xs : List Value), s4 = .int .i64 k ∧ k ≤ l.length ∧ Up w wr ∧ wr.ownsRow w.heap.size 106 4 (.slice (some ⟨w.heap.size, 0, none⟩) l.length l.length) l.length xs ∧ Filled Actn.enc 4 l k xs) (fun s4 _ => l.length - (intOf s4).toNat)
  case atStart => exact ⟨0, xs0, rfl, Nat.zero_le _, ⟨z0, rfl⟩, hown0, Filled.zero _ _ _ _⟩
  case round =>
    obtain ⟨k, xs, rfl, hk, ⟨z, rfl⟩, hown, hfill⟩ := hrel
    by_cases hlt : k < l.length
    · obtain ⟨x, hxk⟩ := getElem?_some_of_lt hlt
      obtain ⟨b, off, rfl, hb, hcc⟩ := hc k x hxk
      have c0 : w.cell? ⟨b, off + k * 4, none⟩ = some (.int .i64 x.kind) := hcc 0 _ rfl
      have c1 : w.cell? ⟨b, off + k * 4 + 1, none⟩ = some (.int .i64 x.src) := hcc 1 _ rfl
      have c2 : w.cell? ⟨b, off + k * 4 + 2, none⟩ = some (.int .i64 x.dst) := hcc 2 _ rfl
      have c3 : w.cell? ⟨b, off + k * 4 + 3, none⟩ = some (.int .i64 x.amt) := hcc 3 _ rfl
      have hxl : xs.length = l.length * 4 := hown.1
      obtain ⟨u0, hu0⟩ := getElem?_some_of_lt (show k * 4 < xs.length by omega)
      obtain ⟨u1, hu1⟩ := getElem?_some_of_lt (show k * 4 + 1 < xs.length by omega)
      obtain ⟨u2, hu2⟩ := getElem?_some_of_lt (show k * 4 + 2 < xs.length by omega)
      obtain ⟨u3, hu3⟩ := getElem?_some_of_lt (show k * 4 + 3 < xs.length by omega)
      have d0 : z.val.cell? ⟨w.heap.size, k * 4, none⟩ = some u0 := (hown.cellAt _ (by omega)).trans hu0
      have f0 := hown.frozenAt (k * 4)
      have d1 : z.val.cell? ⟨w.heap.size, k * 4 + 1, none⟩ = some u1 := (hown.cellAt _ (by omega)).trans hu1
      have f1 := hown.frozenAt (k * 4 + 1)
      have d2 : z.val.cell? ⟨w.heap.size, k * 4 + 2, none⟩ = some u2 := (hown.cellAt _ (by omega)).trans hu2
      have f2 := hown.frozenAt (k * 4 + 2)
      have d3 : z.val.cell? ⟨w.heap.size, k * 4 + 3, none⟩ = some u3 := (hown.cellAt _ (by omega)).trans hu3
      have f3 := hown.frozenAt (k * 4 + 3)
      have hL : LtS w.heap.size z.val := LtS.of_some d0
      have Hx := Lib.hid hxk; have Hown := Lib.hid hown; have Hf := Lib.hid hfill; have Hxl := Lib.hid hxl
      clear hc hcc hxk hown hfill hxl hu0 hu1 hu2 hu3
      go_wp2_with (go_at_call 130; refine (toAction_any x _).mono ?_; rintro e w' ⟨rfl, z1, rfl⟩)
      go_roundw
      case rel => exact ⟨k + 1, setAll xs (k * 4) (Actn.enc x), by go_num, by omega, .of (Ext.setAll (Nat.le_refl _) (Actn.enc x) _ ((Ext.up (Ext.refl _) z).up z1)), ownsRow_setAll (Actn.enc x) _ (ownsRow_up Hown.out z1.ext), Hf.out.next Actn.enc_length Hx.out Hxl.out⟩
      case measure => simp [intOf]; omega
    · go_wp2_with fail
      go_ret
      obtain rfl : k = l.length := by omega
      refine ⟨_, rfl, ⟨z, rfl⟩, ?_⟩
      have e := Filled.all Actn.enc_length hown.1 hfill
      subst e
      exact hown
set_option maxHeartbeats 1000000 in
theorem eqActionS_same (l : List Actn) (v v' : Value) (w : World) (h : SL (RF Actn.enc) 4 w v l) (h' : SL (RF Actn.enc) 4 w v' l) :
    Calls Tryz.prog 121 #[v, v'] w fun e w' => e = .returned (.bool true) ∧ Up w w' := by
  obtain ⟨a, cap, rfl, hlen, hc⟩ := h.open
  obtain ⟨a', cap', rfl, _, hc'⟩ := h'.open
  go_enter Tryz.func121, Tryz.ntmps121
  go_wp2_with fail
  go_loopw [5] (fun s5 wr => ∃ (k : Nat), s5 = .int .i64 k ∧ k ≤ l.length ∧ Up w wr) (fun s5 _ => l.length - (intOf s5).toNat)
  case atStart => exact ⟨0, rfl, Nat.zero_le _, .of (Ext.refl _)⟩
  case round =>
    obtain ⟨k, rfl, hk, ⟨z, rfl⟩⟩ := hrel
    by_cases hlt : k < l.length
    · obtain ⟨x, hxk⟩ := getElem?_some_of_lt hlt
      obtain ⟨b, off, rfl, hb, hcc⟩ := hc k x hxk
      obtain ⟨b', off', rfl, hb', hdd⟩ := hc' k x hxk
      have c0 : w.cell? ⟨b, off + k * 4, none⟩ = some (.int .i64 x.kind) := hcc 0 _ rfl
      have c1 : w.cell? ⟨b, off + k * 4 + 1, none⟩ = some (.int .i64 x.src) := hcc 1 _ rfl
      have c2 : w.cell? ⟨b, off + k * 4 + 2, none⟩ = some (.int .i64 x.dst) := hcc 2 _ rfl
      have c3 : w.cell? ⟨b, off + k * 4 + 3, none⟩ = some (.int .i64 x.amt) := hcc 3 _ rfl
      have d0 : w.cell? ⟨b', off' + k * 4, none⟩ = some (.int .i64 x.kind) := hdd 0 _ rfl
      have d1 : w.cell? ⟨b', off' + k * 4 + 1, none⟩ = some (.int .i64 x.src) := hdd 1 _ rfl
      have d2 : w.cell? ⟨b', off' + k * 4 + 2, none⟩ = some (.int .i64 x.dst) := hdd 2 _ rfl
      have d3 : w.cell? ⟨b', off' + k * 4 + 3, none⟩ = some (.int .i64 x.amt) := hdd 3 _ rfl
      have k0 : (0 : Int) ≤ (k : Int) := by omega
      clear hc hcc hc' hdd hxk
      go_wp2_with fail
      (refine wp_region_up (by kernel_rfl) (by kernel_rfl) ?_; (repeat (go_big_quiet_step ((go_at_call 131; exact Calls.up (eqAction_same x _))))); refine wpQuiet_nil ?_; intro _ hw'; obtain ⟨zq, hw''⟩ := hw'; subst hw'')
      go_wp2_with fail
      go_roundw
      case rel => exact ⟨k + 1, by go_num, by omega, (.of (by repeat (first | exact Ext.refl _ | refine Ext.up ?_ _ | refine Ext.alloc ?_ _ | refine Ext.drew ?_ | refine Ext.setRow ?_ (by first | (dsimp only; omega) | exact LeS.le | exact LeS.add _ | (simp; done) | (simp; omega)) _ | refine Ext.setCell ?_ (by first | (dsimp only; omega) | exact LeS.le | exact LeS.add _ | (simp; done) | (simp; omega)) _)))⟩
      case measure => simp [intOf]; omega
    · go_wp2_with fail
      go_ret
      exact ⟨rfl, z, rfl⟩
set_option maxHeartbeats 1000000 in
theorem markActionS_any (lo : Nat) (l : List Actn) (v : Value) (m : Int) (w : World) (h : Own Actn.enc 106 4 lo w v l) (hm0 : 0 ≤ m) (hm1 : m ≤ 1000000000) (hn : l.length ≤ 1073741824) :
    Calls Tryz.prog 93 #[v, .int .i64 m] w fun e w' => e = .returned (.int .i64 (m + 4 * l.length)) ∧ w.grownBy w' v.ownBlock ∧ Own Actn.enc 106 4 lo w' v (marksActn m l.length) := by
  have h0 : w.ownsRow lo 106 4 v l.length (l.flatMap Actn.enc) := h
  rcases h.2 with ⟨rfl, hn0⟩ | ⟨g, cap, cur, hv, _⟩
  · have : l = [] := List.eq_nil_of_length_eq_zero hn0
    subst this
    go_enter Tryz.func93, Tryz.ntmps93
    go_wp2
    refine wp_loop_rounds 1 ?_; rw [rounds_succ]
    go_wp2
    go_ret
    exact ⟨by simp, ⟨rfl, rfl, rfl, Nat.le_refl _, fun _ _ _ => rfl⟩, h⟩
  subst hv
  clear h
  have hcl : l.length ≤ 9223372036854775807 := by omega
  go_enter Tryz.func93, Tryz.ntmps93
  go_wp2_with fail
  go_loopw [1, 5] (fun s1 s5 wr => ∃ (k : Nat) (xs : List Value), s5 = .int .i64 k ∧ s1 = .int .i64 (m + 4 * k) ∧ k ≤ l.length ∧ w.grownBy wr (some g) ∧ wr.ownsRow lo 106 4 (.slice (some ⟨g, 0, none⟩) l.length cap) l.length xs ∧ Filled Actn.enc 4 (marksActn m l.length) k xs) (fun _ s5 _ => l.length - (intOf s5).toNat)
  case atStart => exact ⟨0, _, rfl, by simp, Nat.zero_le _, ⟨rfl, rfl, rfl, Nat.le_refl _, fun _ _ _ => rfl⟩, h0, Filled.zero _ _ _ _⟩
  case round =>
    obtain ⟨k, xs, rfl, rfl, hk, hg, hown, hfill⟩ := hrel
    by_cases hlt : k < l.length
    · have hxl : xs.length = l.length * 4 := hown.1
      obtain ⟨u0, hu0⟩ := getElem?_some_of_lt (show k * 4 < xs.length by omega)
      obtain ⟨u1, hu1⟩ := getElem?_some_of_lt (show k * 4 + 1 < xs.length by omega)
      obtain ⟨u2, hu2⟩ := getElem?_some_of_lt (show k * 4 + 2 < xs.length by omega)
      obtain ⟨u3, hu3⟩ := getElem?_some_of_lt (show k * 4 + 3 < xs.length by omega)
      have d0 : wr.cell? ⟨g, k * 4, none⟩ = some u0 := (hown.cellAt _ (by omega)).trans hu0
      have f0 := hown.frozenAt (k * 4)
      have d1 : wr.cell? ⟨g, k * 4 + 1, none⟩ = some u1 := (hown.cellAt _ (by omega)).trans hu1
      have f1 := hown.frozenAt (k * 4 + 1)
      have d2 : wr.cell? ⟨g, k * 4 + 2, none⟩ = some u2 := (hown.cellAt _ (by omega)).trans hu2
      have f2 := hown.frozenAt (k * 4 + 2)
      have d3 : wr.cell? ⟨g, k * 4 + 3, none⟩ = some u3 := (hown.cellAt _ (by omega)).trans hu3
      have f3 := hown.frozenAt (k * 4 + 3)
      have hL : LtS g wr := LtS.of_some d0
      have hO := Lib.hid hown; have hF := Lib.hid hfill; have hXl := Lib.hid hxl; have hG := Lib.hid hg; have hH := Lib.hid h0
      clear hown hfill hxl hg h0 hu0 hu1 hu2 hu3
      go_wp2_with fail
      go_roundw
      case rel => exact ⟨k + 1, setAll xs (k * 4) (Actn.enc ⟨m + 4 * k, m + 4 * k + 1, m + 4 * k + 1 + 1, m + 4 * k + 1 + 1 + 1⟩), by go_num, by go_num, by omega, World.grownBy.setAll ([.int .i64 (m + 4 * k), .int .i64 (m + 4 * k + 1), .int .i64 (m + 4 * k + 1 + 1), .int .i64 (m + 4 * k + 1 + 1 + 1)]) (k * 4) hG.out, ownsRow_setAll ([.int .i64 (m + 4 * k), .int .i64 (m + 4 * k + 1), .int .i64 (m + 4 * k + 1 + 1), .int .i64 (m + 4 * k + 1 + 1 + 1)]) (k * 4) hO.out, hF.out.next Actn.enc_length (marksActn_get hlt) (by rw [marksActn_length]; exact hXl.out)⟩
      case measure => simp [intOf]; omega
    · go_wp2_with fail
      go_ret
      obtain rfl : k = l.length := by omega
      refine ⟨rfl, hg, ?_⟩
      have e := Filled.all (l := marksActn m l.length) Actn.enc_length (by rw [marksActn_length]; exact hown.1) (by rw [marksActn_length]; exact hfill)
      subst e
      show World.ownsRow _ _ _ _ _ _ _
      rw [marksActn_length]
      exact hown
theorem szIntS_any (l : List Int) (v : Value) (n : Int) (w : World) (h : SL (RF encI) 1 w v l) (hn0 : 0 ≤ n) (hn1 : n ≤ 1048576) :
    Calls Tryz.prog 47 #[v, .int .i64 n] w fun e w' => e = .returned (.int .i64 (szOf n l.length)) ∧ w = w' := by
  obtain ⟨a, cap, rfl, hlen, _⟩ := h.open
  unfold szOf
  go_enter Tryz.func47, Tryz.ntmps47
  go_wp2
  all_goals (go_ret; exact ⟨by simp [*], rfl⟩)
set_option maxHeartbeats 1000000 in
theorem toIntS_any (l : List Int) (v : Value) (w : World) (h : SL (RF encI) 1 w v l) (hn : l.length ≤ 1048576) :
    Calls Tryz.prog 50 #[v] w fun e w' => ∃ v', e = .returned v' ∧ Up w w' ∧ Own encI 3 1 w.heap.size w' v' l := by
  obtain ⟨a, cap, rfl, hlen, hc⟩ := h.open
  go_enter Tryz.func50, Tryz.ntmps50
  go_wp2_with (at_make; refine wpList_mk fI rfl _ _ rfl l.length rfl rfl (by omega) (by omega) (Ext.refl _) ?_; intro z0 xs0 hown0)
  go_loopw [4] (fun s4 wr => ∃ (k : Nat) (xs : List Value), s4 = .int .i64 k ∧ k ≤ l.length ∧ Up w wr ∧ wr.ownsRow w.heap.size 3 1 (.slice (some ⟨w.heap.size, 0, none⟩) l.length l.length) l.length xs ∧ Filled encI 1 l k xs) (fun s4 _ => l.length - (intOf s4).toNat)
  case atStart => exact ⟨0, xs0, rfl, Nat.zero_le _, ⟨z0, rfl⟩, hown0, Filled.zero _ _ _ _⟩
  case round =>
    obtain ⟨k, xs, rfl, hk, ⟨z, rfl⟩, hown, hfill⟩ := hrel
    by_cases hlt : k < l.length
    · obtain ⟨x, hxk⟩ := getElem?_some_of_lt hlt
      obtain ⟨b, off, rfl, hb, hcc⟩ := hc k x hxk
      have c0 : w.cell? ⟨b, off + k, none⟩ = some (.int .i64 x) := by have := hcc 0 _ rfl; simpa using this
      have hxl : xs.length = l.length * 1 := hown.1
      obtain ⟨u0, hu0⟩ := getElem?_some_of_lt (show k < xs.length by omega)
      have d0 : z.val.cell? ⟨w.heap.size, k, none⟩ = some u0 := (hown.cellAt _ (by omega)).trans hu0
      have f0 := hown.frozenAt (k)
      have hL : LtS w.heap.size z.val := LtS.of_some d0
      have Hx := Lib.hid hxk; have Hown := Lib.hid hown; have Hf := Lib.hid hfill; have Hxl := Lib.hid hxl
      clear hc hcc hxk hown hfill hxl hu0
      go_wp2_with fail
      go_roundw
      case rel => exact ⟨k + 1, setAll xs (k) (encI x), by go_num, by omega, .of (Ext.setAll (Nat.le_refl _) (encI x) _ (Ext.up (Ext.refl _) z)), ownsRow_setAll (encI x) _ Hown.out, by have := Hf.out.next encI_length Hx.out Hxl.out; rwa [Nat.mul_one] at this⟩
      case measure => simp [intOf]; omega
    · go_wp2_with fail
      go_ret
      obtain rfl : k = l.length := by omega
      refine ⟨_, rfl, ⟨z, rfl⟩, ?_⟩
      have e := Filled.all encI_length hown.1 hfill
      subst e
      exact hown
set_option maxHeartbeats 1000000 in
theorem eqIntS_same (l : List Int) (v v' : Value) (w : World) (h : SL (RF encI) 1 w v l) (h' : SL (RF encI) 1 w v' l) :
    Calls Tryz.prog 54 #[v, v'] w fun e w' => e = .returned (.bool true) ∧ Up w w' := by
  obtain ⟨a, cap, rfl, hlen, hc⟩ := h.open
  obtain ⟨a', cap', rfl, _, hc'⟩ := h'.open
  go_enter Tryz.func54, Tryz.ntmps54
  go_wp2_with fail
  go_loopw [5] (fun s5 wr => ∃ (k : Nat), s5 = .int .i64 k ∧ k ≤ l.length ∧ Up w wr) (fun s5 _ => l.length - (intOf s5).toNat)
  case atStart => exact ⟨0, rfl, Nat.zero_le _, .of (Ext.refl _)⟩
  case round =>
    obtain ⟨k, rfl, hk, ⟨z, rfl⟩⟩ := hrel
    by_cases hlt : k < l.length
    · obtain ⟨x, hxk⟩ := getElem?_some_of_lt hlt
      obtain ⟨b, off, rfl, hb, hcc⟩ := hc k x hxk
      obtain ⟨b', off', rfl, hb', hdd⟩ := hc' k x hxk
      have c0 : w.cell? ⟨b, off + k, none⟩ = some (.int .i64 x) := by have := hcc 0 _ rfl; simpa using this
      have d0 : w.cell? ⟨b', off' + k, none⟩ = some (.int .i64 x) := by have := hdd 0 _ rfl; simpa using this
      have k0 : (0 : Int) ≤ (k : Int) := by omega
      clear hc hcc hc' hdd hxk
      go_wp2_with fail
      (refine wp_region_up (by kernel_rfl) (by kernel_rfl) ?_; (repeat (go_big_quiet_step (fail))); refine wpQuiet_nil ?_; intro _ hw'; obtain ⟨zq, hw''⟩ := hw'; subst hw'')
      go_wp2_with fail
      go_roundw
      case rel => exact ⟨k + 1, by go_num, by omega, (.of (by repeat (first | exact Ext.refl _ | refine Ext.up ?_ _ | refine Ext.alloc ?_ _ | refine Ext.drew ?_ | refine Ext.setRow ?_ (by first | (dsimp only; omega) | exact LeS.le | exact LeS.add _ | (simp; done) | (simp; omega)) _ | refine Ext.setCell ?_ (by first | (dsimp only; omega) | exact LeS.le | exact LeS.add _ | (simp; done) | (simp; omega)) _)))⟩
      case measure => simp [intOf]; omega
    · go_wp2_with fail
      go_ret
      exact ⟨rfl, z, rfl⟩
set_option maxHeartbeats 1000000 in
theorem markIntS_any (lo : Nat) (l : List Int) (v : Value) (m : Int) (w : World) (h : Own encI 3 1 lo w v l) (hm0 : 0 ≤ m) (hm1 : m ≤ 1000000000) (hn : l.length ≤ 1073741824) :
    Calls Tryz.prog 57 #[v, .int .i64 m] w fun e w' => e = .returned (.int .i64 (m + l.length)) ∧ w.grownBy w' v.ownBlock ∧ Own encI 3 1 lo w' v (marksI m l.length) := by
  have h0 : w.ownsRow lo 3 1 v l.length (l.flatMap encI) := h
  rcases h.2 with ⟨rfl, hn0⟩ | ⟨g, cap, cur, hv, _⟩
  · have : l = [] := List.eq_nil_of_length_eq_zero hn0
    subst this
    go_enter Tryz.func57, Tryz.ntmps57
    go_wp2
    refine wp_loop_rounds 1 ?_; rw [rounds_succ]
    go_wp2
    go_ret
    exact ⟨by simp, ⟨rfl, rfl, rfl, Nat.le_refl _, fun _ _ _ => rfl⟩, h⟩
  subst hv
  clear h
  have hcl : l.length ≤ 9223372036854775807 := by omega
  go_enter Tryz.func57, Tryz.ntmps57
  go_wp2_with fail
  go_loopw [1, 5] (fun s1 s5 wr => ∃ (k : Nat) (xs : List Value), s5 = .int .i64 k ∧ s1 = .int .i64 (m + k) ∧ k ≤ l.length ∧ w.grownBy wr (some g) ∧ wr.ownsRow lo 3 1 (.slice (some ⟨g, 0, none⟩) l.length cap) l.length xs ∧ Filled encI 1 (marksI m l.length) k xs) (fun _ s5 _ => l.length - (intOf s5).toNat)
  case atStart => exact ⟨0, _, rfl, by simp, Nat.zero_le _, ⟨rfl, rfl, rfl, Nat.le_refl _, fun _ _ _ => rfl⟩, h0, Filled.zero _ _ _ _⟩
  case round =>
    obtain ⟨k, xs, rfl, rfl, hk, hg, hown, hfill⟩ := hrel
    by_cases hlt : k < l.length
    · have hxl : xs.length = l.length * 1 := hown.1
      obtain ⟨u0, hu0⟩ := getElem?_some_of_lt (show k < xs.length by omega)
      have d0 : wr.cell? ⟨g, k, none⟩ = some u0 := (hown.cellAt _ (by omega)).trans hu0
      have f0 := hown.frozenAt (k)
      have hL : LtS g wr := LtS.of_some d0
      have hO := Lib.hid hown; have hF := Lib.hid hfill; have hXl := Lib.hid hxl; have hG := Lib.hid hg; have hH := Lib.hid h0
      clear hown hfill hxl hg h0 hu0
      go_wp2_with fail
      go_roundw
      case rel => exact ⟨k + 1, setAll xs k (encI (m + k)), by go_num, by go_num, by omega, World.grownBy.setAll ([.int .i64 (m + k)]) (k) hG.out, ownsRow_setAll ([.int .i64 (m + k)]) (k) hO.out, (by have := hF.out.next encI_length (marksI_get hlt) (by rw [marksI_length]; exact hXl.out); rwa [Nat.mul_one] at this)⟩
      case measure => simp [intOf]; omega
    · go_wp2_with fail
      go_ret
      obtain rfl : k = l.length := by omega
      refine ⟨rfl, hg, ?_⟩
      have e := Filled.all (l := marksI m l.length) encI_length (by rw [marksI_length]; exact hown.1) (by rw [marksI_length]; exact hfill)
      subst e
      show World.ownsRow _ _ _ _ _ _ _
      rw [marksI_length]
      exact hown
end Go.Proofs.YteiemjebdhmnaaaGreat
namespace Go.Proofs.YteiemjebdhmnaaaGreat
open Go Go.RowKit
theorem wrap_i64_nat (n : Nat) (h : n < 9223372036854775808) : IntKind.i64.wrap (n : Int) = n := IntWalk.i64_in _ ⟨by omega, by omega⟩
theorem ofInt_i64n (a : Nat) (ha : a < 9223372036854775808) : (BitVec.ofInt 64 (a : Int)).toNat = a := by
  rw [BitVec.ofInt_natCast, BitVec.toNat_ofNat]; exact Nat.mod_eq_of_lt (by omega)
theorem i64_or_nat (a b : Nat) (ha : a < 9223372036854775808) (hb : b < 9223372036854775808) : bits .or .i64 (a : Int) (b : Int) = ((a ||| b : Nat) : Int) := by
  have h : a ||| b < 2 ^ 63 := Nat.or_lt_two_pow (n := 63) (by omega) (by omega)
  show IntKind.i64.wrap ((BitVec.ofInt 64 (a : Int) ||| BitVec.ofInt 64 (b : Int)).toNat : Int) = _
  rw [BitVec.toNat_or, ofInt_i64n a ha, ofInt_i64n b hb]
  exact wrap_i64_nat _ (by omega)
theorem i64_and_nat (a b : Nat) (ha : a < 9223372036854775808) (hb : b < 9223372036854775808) : bits .and .i64 (a : Int) (b : Int) = ((a &&& b : Nat) : Int) := by
  have h : a &&& b < 2 ^ 63 := Nat.and_lt_two_pow (n := 63) _ (by omega)
  show IntKind.i64.wrap ((BitVec.ofInt 64 (a : Int) &&& BitVec.ofInt 64 (b : Int)).toNat : Int) = _
  rw [BitVec.toNat_and, ofInt_i64n a ha, ofInt_i64n b hb]
  exact wrap_i64_nat _ (by omega)
theorem i64_xor_nat (a b : Nat) (ha : a < 9223372036854775808) (hb : b < 9223372036854775808) : bits .xor .i64 (a : Int) (b : Int) = ((a ^^^ b : Nat) : Int) := by
  have h : a ^^^ b < 2 ^ 63 := Nat.xor_lt_two_pow (n := 63) (by omega) (by omega)
  show IntKind.i64.wrap ((BitVec.ofInt 64 (a : Int) ^^^ BitVec.ofInt 64 (b : Int)).toNat : Int) = _
  rw [BitVec.toNat_xor, ofInt_i64n a ha, ofInt_i64n b hb]
  exact wrap_i64_nat _ (by omega)
end Go.Proofs.YteiemjebdhmnaaaGreat
namespace Go.Proofs.YteiemjebdhmnaaaGreat
open Go Go.RowKit

def kindOk (kind dst amt : Int) : Bool := if kind = 1 ∨ kind = 6 then decide (dst = 0) else if kind = 3 ∨ kind = 4 ∨ kind = 5 then decide (amt = 0) else decide (kind = 2)
def Actn.ok (x : Actn) : Bool := inR x.src 0 31 && (inR x.dst 0 31 && (inR x.amt 0 1000000 && kindOk x.kind x.dst x.amt))
/-- The keys that an action reads. -/
def Actn.rk (x : Actn) : List Int := if x.kind = 1 then [] else if x.kind = 3 ∨ x.kind = 6 ∨ x.src = x.dst then [x.src] else [x.src, x.dst]
/-- The keys that it may write. -/
def Actn.wk (x : Actn) : List Int := if x.kind = 1 ∨ x.kind = 6 then [x.src] else if x.kind = 3 ∨ x.kind = 5 ∨ x.src = x.dst then [x.dst] else [min x.src x.dst, max x.src x.dst]
theorem kinds (k : Int) : k = 1 ∨ k = 2 ∨ k = 3 ∨ k = 4 ∨ k = 5 ∨ k = 6 ∨ (k ≠ 1 ∧ k ≠ 2 ∧ k ≠ 3 ∧ k ≠ 4 ∧ k ≠ 5 ∧ k ≠ 6) := by omega
theorem Actn.rk_in {x : Actn} (h : x.ok = true) : ∀ n ∈ x.rk, 0 ≤ n ∧ n ≤ 31 := by
  simp only [Actn.ok, Bool.and_eq_true, inR_iff] at h
  obtain ⟨⟨h1, h2⟩, ⟨h3, h4⟩, _⟩ := h
  intro n hn
  unfold Actn.rk at hn
  split at hn
  · simp at hn
  · split at hn <;> simp at hn
    · omega
    · rcases hn with rfl | rfl <;> omega
theorem Actn.wk_in {x : Actn} (h : x.ok = true) : ∀ n ∈ x.wk, 0 ≤ n ∧ n ≤ 31 := by
  simp only [Actn.ok, Bool.and_eq_true, inR_iff] at h
  obtain ⟨⟨h1, h2⟩, ⟨h3, h4⟩, _⟩ := h
  intro n hn
  unfold Actn.wk at hn
  split at hn
  · simp at hn; omega
  · split at hn <;> simp at hn
    · omega
    · rcases hn with rfl | rfl <;> omega
theorem Actn.rk_le (x : Actn) : x.rk.length ≤ 2 := by unfold Actn.rk; split <;> (try split) <;> simp
theorem Actn.wk_le (x : Actn) : x.wk.length ≤ 2 := by unfold Actn.wk; split <;> (try split) <;> simp

/-- Keys as bits. -/
def maskN (l : List Int) : Nat := l.foldl (fun m k => m ||| 2 ^ k.toNat) 0
theorem maskN_snoc (l : List Int) (k : Int) : maskN (l ++ [k]) = maskN l ||| 2 ^ k.toNat := by simp [maskN]
theorem maskN_lt (l : List Int) (h : ∀ n ∈ l, 0 ≤ n ∧ n ≤ 31) : maskN l < 4294967296 := by
  have key : ∀ (l : List Int) (m : Nat), m < 2 ^ 32 → (∀ n ∈ l, 0 ≤ n ∧ n ≤ 31) → l.foldl (fun m k => m ||| 2 ^ k.toNat) m < 2 ^ 32 := by
    intro l
    induction l with
    | nil => intro m hm _; simpa using hm
    | cons k l ih =>
      intro m hm h
      simp only [List.foldl_cons]
      refine ih _ (Nat.or_lt_two_pow hm ?_) (fun n hn => h n (by simp [hn]))
      have := h k (by simp)
      exact Nat.pow_lt_pow_right (by decide) (by omega)
  exact key l 0 (by decide) h
theorem maskN_bit (l : List Int) (i : Nat) (h : ∀ n ∈ l, 0 ≤ n) : (maskN l).testBit i = decide ((i : Int) ∈ l) := by
  have key : ∀ (l : List Int) (m : Nat), (∀ n ∈ l, 0 ≤ n) → (l.foldl (fun m k => m ||| 2 ^ k.toNat) m).testBit i = (m.testBit i || decide ((i : Int) ∈ l)) := by
    intro l
    induction l with
    | nil => intro m _; simp
    | cons k l ih =>
      intro m h
      simp only [List.foldl_cons]
      rw [ih _ (fun n hn => h n (by simp [hn])), Nat.testBit_or, Nat.testBit_two_pow]
      have := h k (by simp)
      have e : decide (k.toNat = i) = decide ((i : Int) = k) := by rw [Bool.eq_iff_iff]; simp; omega
      rw [e, Bool.or_assoc]
      simp
  have := key l 0 h
  simpa [maskN] using this
/-- A key of both. -/
def common (a b : List Int) : Bool := a.any fun x => b.contains x
theorem maskN_and {a b : List Int} (ha : ∀ n ∈ a, 0 ≤ n) (hb : ∀ n ∈ b, 0 ≤ n) : (maskN a &&& maskN b ≠ 0) ↔ common a b = true := by
  constructor
  · intro h
    obtain ⟨i, hi⟩ := Nat.exists_testBit_of_ne_zero h
    rw [Nat.testBit_and, maskN_bit a i ha, maskN_bit b i hb] at hi
    simp at hi
    simp only [common, List.any_eq_true]
    exact ⟨i, hi.1, by simpa using hi.2⟩
  · intro h
    simp only [common, List.any_eq_true] at h
    obtain ⟨x, hx, hy⟩ := h
    have h0 := ha x hx
    have e : (x.toNat : Int) = x := by omega
    intro hz
    have h1 : (maskN a &&& maskN b).testBit x.toNat = true := by
      rw [Nat.testBit_and, maskN_bit a _ ha, maskN_bit b _ hb, e]
      simp at hy
      simp [hx, hy]
    rw [hz] at h1
    simp at h1
/-- Two actions that may not change their order. -/
def conf (a b : Actn) : Bool := common a.wk b.wk || (common a.wk b.rk || common a.rk b.wk)
def conflict (a b : Actn) : Bool := a.ok && (b.ok && conf a b)
end Go.Proofs.YteiemjebdhmnaaaGreat
