/- Walks: sizes, copies, comparisons and marks of slices of flat elements (the laws' helpers). -/
import Derived.Test.YtknohbdhbjppjaaProg
import Derived.Test.YtknohbdhbjppjaaGBRTop00
set_option linter.unusedSimpArgs false
set_option linter.unusedVariables false
namespace Go.Proofs.Ytknohbdhbjppjaa
open Go Go.RowKit Go.Proofs
theorem fI : AppFacts Try.prog 36 3 1 8 := by
  have h : (Try.prog.info? 3).map (fun i => (i.zero, i.size, i.bytes)) = some (some (.int .i64 0), 1, 8) := by kernel_rfl
  obtain ⟨i0, hi, hz0, hz1, hz2⟩ := info_parts h
  exact ⟨Try.underlying36, ⟨i0, _, hi, hz0, hz1, hz2, rfl⟩, by decide⟩
theorem fEnt : AppFacts Try.prog 28 97 2 16 := by
  have h : (Try.prog.info? 97).map (fun i => (i.zero, i.size, i.bytes)) = some (some (.agg #[.int .i64 0, .int .i64 0]), 2, 16) := by kernel_rfl
  obtain ⟨i0, hi, hz0, hz1, hz2⟩ := info_parts h
  exact ⟨Try.underlying28, ⟨i0, _, hi, hz0, hz1, hz2, rfl⟩, by decide⟩
theorem fActn : AppFacts Try.prog 24 86 4 32 := by
  have h : (Try.prog.info? 86).map (fun i => (i.zero, i.size, i.bytes)) = some (some (.agg #[.int .i64 0, .int .i64 0, .int .i64 0, .int .i64 0]), 4, 32) := by kernel_rfl
  obtain ⟨i0, hi, hz0, hz1, hz2⟩ := info_parts h
  exact ⟨Try.underlying24, ⟨i0, _, hi, hz0, hz1, hz2, rfl⟩, by decide⟩
theorem fVer : AppFacts Try.prog 44 108 3 24 := by
  have h : (Try.prog.info? 108).map (fun i => (i.zero, i.size, i.bytes)) = some (some (.agg #[.int .i64 0, .int .i64 0, .int .i64 0]), 3, 24) := by kernel_rfl
  obtain ⟨i0, hi, hz0, hz1, hz2⟩ := info_parts h
  exact ⟨Try.underlying44, ⟨i0, _, hi, hz0, hz1, hz2, rfl⟩, by decide⟩
theorem toEntry_any (x : Ent) (w : World) : Calls Try.prog 73 #[.agg #[.int .i64 x.k, .int .i64 x.v]] w fun e w' => e = .returned (.agg #[.int .i64 x.k, .int .i64 x.v]) ∧ Up w w' := by
  go_enter Try.func73, Try.ntmps73
  go_wp2_with fail
  refine bodyPost_ret (v := .agg #[.int .i64 x.k, .int .i64 x.v]) (by simp [results, Try.results73, go_sem]) rfl ?_
  exact ⟨rfl, (.of (by repeat (first | exact Ext.refl _ | refine Ext.up ?_ _ | refine Ext.alloc ?_ _ | refine Ext.drew ?_ | refine Ext.setRow ?_ (by first | (dsimp only; omega) | exact LeS.le | exact LeS.add _ | (simp; done) | (simp; omega)) _ | refine Ext.setCell ?_ (by first | (dsimp only; omega) | exact LeS.le | exact LeS.add _ | (simp; done) | (simp; omega)) _)))⟩
theorem eqEntry_same (x : Ent) (w : World) : Calls Try.prog 77 #[.agg #[.int .i64 x.k, .int .i64 x.v], .agg #[.int .i64 x.k, .int .i64 x.v]] w fun e w' => e = .returned (.bool true) ∧ Up w w' := by
  go_enter Try.func77, Try.ntmps77
  go_wp2
  go_ret
  exact ⟨rfl, (.of (by repeat (first | exact Ext.refl _ | refine Ext.up ?_ _ | refine Ext.alloc ?_ _ | refine Ext.drew ?_ | refine Ext.setRow ?_ (by first | (dsimp only; omega) | exact LeS.le | exact LeS.add _ | (simp; done) | (simp; omega)) _ | refine Ext.setCell ?_ (by first | (dsimp only; omega) | exact LeS.le | exact LeS.add _ | (simp; done) | (simp; omega)) _)))⟩
theorem szEntryS_any (l : List Ent) (v : Value) (n : Int) (w : World) (h : SL (RF Ent.enc) 2 w v l) (hn0 : 0 ≤ n) (hn1 : n ≤ 1048576) :
    Calls Try.prog 14 #[v, .int .i64 n] w fun e w' => e = .returned (.int .i64 (szOf n l.length)) ∧ w = w' := by
  obtain ⟨a, cap, rfl, hlen, _⟩ := h.open
  unfold szOf
  go_enter Try.func14, Try.ntmps14
  go_wp2
  all_goals (go_ret; exact ⟨by simp [*], rfl⟩)
set_option maxHeartbeats 1000000 in
theorem toEntryS_any (l : List Ent) (v : Value) (w : World) (h : SL (RF Ent.enc) 2 w v l) (hn : l.length ≤ 1048576) :
    Calls Try.prog 16 #[v] w fun e w' => ∃ v', e = .returned v' ∧ Up w w' ∧ Own Ent.enc 97 2 w.heap.size w' v' l := by
  obtain ⟨a, cap, rfl, hlen, hc⟩ := h.open
  go_enter Try.func16, Try.ntmps16
  go_wp2_with (at_make; refine wpList_mk fEnt rfl _ _ rfl l.length rfl rfl (by omega) (by omega) (Ext.refl _) ?_; intro z0 xs0 hown0)
  go_loopw [4] (fun s4 wr => ∃ (k : Nat) (xs : List Value), s4 = .int .i64 k ∧ k ≤ l.length ∧ Up w wr ∧ wr.ownsRow w.heap.size 97 2 (.slice (some ⟨w.heap.size, 0, none⟩) l.length l.length) l.length xs ∧ Filled Ent.enc 2 l k xs) (fun s4 _ => l.length - (intOf s4).toNat)
  case atStart => exact ⟨0, xs0, rfl, Nat.zero_le _, ⟨z0, rfl⟩, hown0, Filled.zero _ _ _ _⟩
  case round =>
    obtain ⟨k, xs, rfl, hk, ⟨z, rfl⟩, hown, hfill⟩ := hrel
    by_cases hlt : k < l.length
    · obtain ⟨x, hxk⟩ := getElem?_some_of_lt hlt
      obtain ⟨b, off, rfl, hb, hcc⟩ := hc k x hxk
      have c0 : w.cell? ⟨b, off + k * 2, none⟩ = some (.int .i64 x.k) := hcc 0 _ rfl
      have c1 : w.cell? ⟨b, off + k * 2 + 1, none⟩ = some (.int .i64 x.v) := hcc 1 _ rfl
      have hxl : xs.length = l.length * 2 := hown.1
      obtain ⟨u0, hu0⟩ := getElem?_some_of_lt (show k * 2 < xs.length by omega)
      obtain ⟨u1, hu1⟩ := getElem?_some_of_lt (show k * 2 + 1 < xs.length by omega)
      have d0 : z.val.cell? ⟨w.heap.size, k * 2, none⟩ = some u0 := (hown.cellAt _ (by omega)).trans hu0
      have f0 := hown.frozenAt (k * 2)
      have d1 : z.val.cell? ⟨w.heap.size, k * 2 + 1, none⟩ = some u1 := (hown.cellAt _ (by omega)).trans hu1
      have f1 := hown.frozenAt (k * 2 + 1)
      have hL : LtS w.heap.size z.val := LtS.of_some d0
      have Hx := Lib.hid hxk; have Hown := Lib.hid hown; have Hf := Lib.hid hfill; have Hxl := Lib.hid hxl
      clear hc hcc hxk hown hfill hxl hu0 hu1
      go_wp2_with (go_at_call 73; refine (toEntry_any x _).mono ?_; rintro e w' ⟨rfl, z1, rfl⟩)
      go_roundw
      case rel => exact ⟨k + 1, setAll xs (k * 2) (Ent.enc x), by go_num, by omega, .of (Ext.setAll (Nat.le_refl _) (Ent.enc x) _ ((Ext.up (Ext.refl _) z).up z1)), ownsRow_setAll (Ent.enc x) _ (ownsRow_up Hown.out z1.ext), Hf.out.next Ent.enc_length Hx.out Hxl.out⟩
      case measure => simp [intOf]; omega
    · go_wp2_with fail
      go_ret
      obtain rfl : k = l.length := by omega
      refine ⟨_, rfl, ⟨z, rfl⟩, ?_⟩
      have e := Filled.all Ent.enc_length hown.1 hfill
      subst e
      exact hown
set_option maxHeartbeats 1000000 in
theorem eqEntryS_same (l : List Ent) (v v' : Value) (w : World) (h : SL (RF Ent.enc) 2 w v l) (h' : SL (RF Ent.enc) 2 w v' l) :
    Calls Try.prog 19 #[v, v'] w fun e w' => e = .returned (.bool true) ∧ Up w w' := by
  obtain ⟨a, cap, rfl, hlen, hc⟩ := h.open
  obtain ⟨a', cap', rfl, _, hc'⟩ := h'.open
  go_enter Try.func19, Try.ntmps19
  go_wp2_with fail
  go_loopw [5] (fun s5 wr => ∃ (k : Nat), s5 = .int .i64 k ∧ k ≤ l.length ∧ Up w wr) (fun s5 _ => l.length - (intOf s5).toNat)
  case atStart => exact ⟨0, rfl, Nat.zero_le _, .of (Ext.refl _)⟩
  case round =>
    obtain ⟨k, rfl, hk, ⟨z, rfl⟩⟩ := hrel
    by_cases hlt : k < l.length
    · obtain ⟨x, hxk⟩ := getElem?_some_of_lt hlt
      obtain ⟨b, off, rfl, hb, hcc⟩ := hc k x hxk
      obtain ⟨b', off', rfl, hb', hdd⟩ := hc' k x hxk
      have c0 : w.cell? ⟨b, off + k * 2, none⟩ = some (.int .i64 x.k) := hcc 0 _ rfl
      have c1 : w.cell? ⟨b, off + k * 2 + 1, none⟩ = some (.int .i64 x.v) := hcc 1 _ rfl
      have d0 : w.cell? ⟨b', off' + k * 2, none⟩ = some (.int .i64 x.k) := hdd 0 _ rfl
      have d1 : w.cell? ⟨b', off' + k * 2 + 1, none⟩ = some (.int .i64 x.v) := hdd 1 _ rfl
      have k0 : (0 : Int) ≤ (k : Int) := by omega
      clear hc hcc hc' hdd hxk
      go_wp2_with fail
      (refine wp_region_up (by kernel_rfl) (by kernel_rfl) ?_; (repeat (go_big_quiet_step ((go_at_call 77; exact Calls.up (eqEntry_same x _))))); refine wpQuiet_nil ?_; intro _ hw'; obtain ⟨zq, hw''⟩ := hw'; subst hw'')
      go_wp2_with fail
      go_roundw
      case rel => exact ⟨k + 1, by go_num, by omega, (.of (by repeat (first | exact Ext.refl _ | refine Ext.up ?_ _ | refine Ext.alloc ?_ _ | refine Ext.drew ?_ | refine Ext.setRow ?_ (by first | (dsimp only; omega) | exact LeS.le | exact LeS.add _ | (simp; done) | (simp; omega)) _ | refine Ext.setCell ?_ (by first | (dsimp only; omega) | exact LeS.le | exact LeS.add _ | (simp; done) | (simp; omega)) _)))⟩
      case measure => simp [intOf]; omega
    · go_wp2_with fail
      go_ret
      exact ⟨rfl, z, rfl⟩
set_option maxHeartbeats 1000000 in
theorem markEntryS_any (lo : Nat) (l : List Ent) (v : Value) (m : Int) (w : World) (h : Own Ent.enc 97 2 lo w v l) (hm0 : 0 ≤ m) (hm1 : m ≤ 1000000000) (hn : l.length ≤ 1073741824) :
    Calls Try.prog 20 #[v, .int .i64 m] w fun e w' => e = .returned (.int .i64 (m + 2 * l.length)) ∧ w.grownBy w' v.ownBlock ∧ Own Ent.enc 97 2 lo w' v (marksEnt m l.length) := by
  have h0 : w.ownsRow lo 97 2 v l.length (l.flatMap Ent.enc) := h
  rcases h.2 with ⟨rfl, hn0⟩ | ⟨g, cap, cur, hv, _⟩
  · have : l = [] := List.eq_nil_of_length_eq_zero hn0
    subst this
    go_enter Try.func20, Try.ntmps20
    go_wp2
    refine wp_loop_rounds 1 ?_; rw [rounds_succ]
    go_wp2
    go_ret
    exact ⟨by simp, ⟨rfl, rfl, rfl, Nat.le_refl _, fun _ _ _ => rfl⟩, h⟩
  subst hv
  clear h
  have hcl : l.length ≤ 9223372036854775807 := by omega
  go_enter Try.func20, Try.ntmps20
  go_wp2_with fail
  go_loopw [1, 5] (fun s1 s5 wr => ∃ (k : Nat) (xs : List Value), s5 = .int .i64 k ∧ s1 = .int .i64 (m + 2 * k) ∧ k ≤ l.length ∧ w.grownBy wr (some g) ∧ wr.ownsRow lo 97 2 (.slice (some ⟨g, 0, none⟩) l.length cap) l.length xs ∧ Filled Ent.enc 2 (marksEnt m l.length) k xs) (fun _ s5 _ => l.length - (intOf s5).toNat)
  case atStart => exact ⟨0, _, rfl, by simp, Nat.zero_le _, ⟨rfl, rfl, rfl, Nat.le_refl _, fun _ _ _ => rfl⟩, h0, Filled.zero _ _ _ _⟩
  case round =>
    obtain ⟨k, xs, rfl, rfl, hk, hg, hown, hfill⟩ := hrel
    by_cases hlt : k < l.length
    · have hxl : xs.length = l.length * 2 := hown.1
      obtain ⟨u0, hu0⟩ := getElem?_some_of_lt (show k * 2 < xs.length by omega)
      obtain ⟨u1, hu1⟩ := getElem?_some_of_lt (show k * 2 + 1 < xs.length by omega)
      have d0 : wr.cell? ⟨g, k * 2, none⟩ = some u0 := (hown.cellAt _ (by omega)).trans hu0
      have f0 := hown.frozenAt (k * 2)
      have d1 : wr.cell? ⟨g, k * 2 + 1, none⟩ = some u1 := (hown.cellAt _ (by omega)).trans hu1
      have f1 := hown.frozenAt (k * 2 + 1)
      have hL : LtS g wr := LtS.of_some d0
      have hO := Lib.hid hown; have hF := Lib.hid hfill; have hXl := Lib.hid hxl; have hG := Lib.hid hg; have hH := Lib.hid h0
      clear hown hfill hxl hg h0 hu0 hu1
      go_wp2_with fail
      go_roundw
      case rel => exact ⟨k + 1, setAll xs (k * 2) (Ent.enc ⟨m + 2 * k, m + 2 * k + 1⟩), by go_num, by go_num, by omega, World.grownBy.setAll ([.int .i64 (m + 2 * k), .int .i64 (m + 2 * k + 1)]) (k * 2) hG.out, ownsRow_setAll ([.int .i64 (m + 2 * k), .int .i64 (m + 2 * k + 1)]) (k * 2) hO.out, hF.out.next Ent.enc_length (marksEnt_get hlt) (by rw [marksEnt_length]; exact hXl.out)⟩
      case measure => simp [intOf]; omega
    · go_wp2_with fail
      go_ret
      obtain rfl : k = l.length := by omega
      refine ⟨rfl, hg, ?_⟩
      have e := Filled.all (l := marksEnt m l.length) Ent.enc_length (by rw [marksEnt_length]; exact hown.1) (by rw [marksEnt_length]; exact hfill)
      subst e
      show World.ownsRow _ _ _ _ _ _ _
      rw [marksEnt_length]
      exact hown
set_option maxHeartbeats 1000000 in
theorem heldEntryS_marks (n : Nat) (v : Value) (m : Int) (w : World) (h : SL (RF Ent.enc) 2 w v (marksEnt m n)) (hm0 : 0 ≤ m) (hm1 : m ≤ 1000000000) (hn : n ≤ 1073741824) :
    Calls Try.prog 46 #[v, .int .i64 m] w fun e w' => e = .returned (.int .i64 (m + 2 * n)) ∧ w = w' := by
  obtain ⟨a, cap, rfl, _, hc⟩ := h.open
  rw [marksEnt_length]
  go_enter Try.func46, Try.ntmps46
  go_wp2_with fail
  go_loop [1, 5] (fun s1 s5 => ∃ (k : Nat), s5 = .int .i64 k ∧ s1 = .int .i64 (m + 2 * k) ∧ k ≤ n) (fun _ s5 => n - (intOf s5).toNat)
  case atStart => exact ⟨0, rfl, by simp, Nat.zero_le _⟩
  case round =>
    obtain ⟨k, rfl, rfl, hk⟩ := hrel
    by_cases hlt : k < n
    · obtain ⟨b, off, rfl, hb, hcc⟩ := hc k _ (marksEnt_get hlt)
      have c0 : w.cell? ⟨b, off + k * 2, none⟩ = some (.int .i64 (m + 2 * k)) := hcc 0 _ rfl
      have c1 : w.cell? ⟨b, off + k * 2 + 1, none⟩ = some (.int .i64 (m + 2 * k + 1)) := hcc 1 _ rfl
      clear hc hcc
      go_wp2_with fail
      go_round
      case rel => exact ⟨k + 1, by go_num, by go_num, by omega⟩
      case measure => simp [intOf]; omega
    · go_wp2_with fail
      go_ret
      obtain rfl : k = n := by omega
      exact ⟨rfl, rfl⟩
theorem toAction_any (x : Actn) (w : World) : Calls Try.prog 96 #[.agg #[.int .i64 x.kind, .int .i64 x.src, .int .i64 x.dst, .int .i64 x.amt]] w fun e w' => e = .returned (.agg #[.int .i64 x.kind, .int .i64 x.src, .int .i64 x.dst, .int .i64 x.amt]) ∧ Up w w' := by
  go_enter Try.func96, Try.ntmps96
  go_wp2_with fail
  refine bodyPost_ret (v := .agg #[.int .i64 x.kind, .int .i64 x.src, .int .i64 x.dst, .int .i64 x.amt]) (by simp [results, Try.results96, go_sem]) rfl ?_
  exact ⟨rfl, (.of (by repeat (first | exact Ext.refl _ | refine Ext.up ?_ _ | refine Ext.alloc ?_ _ | refine Ext.drew ?_ | refine Ext.setRow ?_ (by first | (dsimp only; omega) | exact LeS.le | exact LeS.add _ | (simp; done) | (simp; omega)) _ | refine Ext.setCell ?_ (by first | (dsimp only; omega) | exact LeS.le | exact LeS.add _ | (simp; done) | (simp; omega)) _)))⟩
theorem eqAction_same (x : Actn) (w : World) : Calls Try.prog 102 #[.agg #[.int .i64 x.kind, .int .i64 x.src, .int .i64 x.dst, .int .i64 x.amt], .agg #[.int .i64 x.kind, .int .i64 x.src, .int .i64 x.dst, .int .i64 x.amt]] w fun e w' => e = .returned (.bool true) ∧ Up w w' := by
  go_enter Try.func102, Try.ntmps102
  go_wp2
  go_ret
  exact ⟨rfl, (.of (by repeat (first | exact Ext.refl _ | refine Ext.up ?_ _ | refine Ext.alloc ?_ _ | refine Ext.drew ?_ | refine Ext.setRow ?_ (by first | (dsimp only; omega) | exact LeS.le | exact LeS.add _ | (simp; done) | (simp; omega)) _ | refine Ext.setCell ?_ (by first | (dsimp only; omega) | exact LeS.le | exact LeS.add _ | (simp; done) | (simp; omega)) _)))⟩
theorem szActionS_any (l : List Actn) (v : Value) (n : Int) (w : World) (h : SL (RF Actn.enc) 4 w v l) (hn0 : 0 ≤ n) (hn1 : n ≤ 1048576) :
    Calls Try.prog 35 #[v, .int .i64 n] w fun e w' => e = .returned (.int .i64 (szOf n l.length)) ∧ w = w' := by
  obtain ⟨a, cap, rfl, hlen, _⟩ := h.open
  unfold szOf
  go_enter Try.func35, Try.ntmps35
  go_wp2
  all_goals (go_ret; exact ⟨by simp [*], rfl⟩)
set_option maxHeartbeats 1000000 in
theorem toActionS_any (l : List Actn) (v : Value) (w : World) (h : SL (RF Actn.enc) 4 w v l) (hn : l.length ≤ 1048576) :
    Calls Try.prog 37 #[v] w fun e w' => ∃ v', e = .returned v' ∧ Up w w' ∧ Own Actn.enc 86 4 w.heap.size w' v' l := by
  obtain ⟨a, cap, rfl, hlen, hc⟩ := h.open
  go_enter Try.func37, Try.ntmps37
  go_wp2_with (at_make; refine wpList_mk fActn rfl _ _ rfl l.length rfl rfl (by omega) (by omega) (Ext.refl _) ?_; intro z0 xs0 hown0)
  go_loopw [4] (fun s4 wr => ∃ (k : Nat) (xs : List Value), s4 = .int .i64 k ∧ k ≤ l.length ∧ Up w wr ∧ wr.ownsRow w.heap.size 86 4 (.slice (some ⟨w.heap.size, 0, none⟩) l.length l.length) l.length xs ∧ Filled Actn.enc 4 l k xs) (fun s4 _ => l.length - (intOf s4).toNat)
  case atStart => exact ⟨0, xs0, rfl, Nat.zero_le _, ⟨z0, rfl⟩, hown0, Filled.zero _ _ _ _⟩
  case round =>
    obtain ⟨k, xs, rfl, hk, ⟨z, rfl⟩, hown, hfill⟩ := hrel
    by_cases hlt : k < l.length
    · obtain ⟨x, hxk⟩ := getElem?_some_of_lt hlt
      obtain ⟨b, off, rfl, hb, hcc⟩ := hc k x hxk
      have c0 : w.cell? ⟨b, off + k * 4, none⟩ = some (.int .i64 x.kind) := hcc 0 _ rfl
      have c1 : w.cell? ⟨b, off + k * 4 + 1, none⟩ = some (.int .i64 x.src) := hcc 1 _ rfl
      have c2 : w.cell? ⟨b, off + k * 4 + 2, none⟩ = some (.int .i64 x.dst) := hcc 2 _ rfl
      have c3 : w.cell? ⟨b, off + k * 4 + 3, none⟩ = some (.int .i64 x.amt) := hcc 3 _ rfl
      have hxl : xs.length = l.length * 4 := hown.1
      obtain ⟨u0, hu0⟩ := getElem?_some_of_lt (show k * 4 < xs.length by omega)
      obtain ⟨u1, hu1⟩ := getElem?_some_of_lt (show k * 4 + 1 < xs.length by omega)
      obtain ⟨u2, hu2⟩ := getElem?_some_of_lt (show k * 4 + 2 < xs.length by omega)
      obtain ⟨u3, hu3⟩ := getElem?_some_of_lt (show k * 4 + 3 < xs.length by omega)
      have d0 : z.val.cell? ⟨w.heap.size, k * 4, none⟩ = some u0 := (hown.cellAt _ (by omega)).trans hu0
      have f0 := hown.frozenAt (k * 4)
      have d1 : z.val.cell? ⟨w.heap.size, k * 4 + 1, none⟩ = some u1 := (hown.cellAt _ (by omega)).trans hu1
      have f1 := hown.frozenAt (k * 4 + 1)
      have d2 : z.val.cell? ⟨w.heap.size, k * 4 + 2, none⟩ = some u2 := (hown.cellAt _ (by omega)).trans hu2
      have f2 := hown.frozenAt (k * 4 + 2)
      have d3 : z.val.cell? ⟨w.heap.size, k * 4 + 3, none⟩ = some u3 := (hown.cellAt _ (by omega)).trans hu3
      have f3 := hown.frozenAt (k * 4 + 3)
      have hL : LtS w.heap.size z.val := LtS.of_some d0
      have Hx := Lib.hid hxk; have Hown := Lib.hid hown; have Hf := Lib.hid hfill; have Hxl := Lib.hid hxl
      clear hc hcc hxk hown hfill hxl hu0 hu1 hu2 hu3
      go_wp2_with (go_at_call 96; refine (toAction_any x _).mono ?_; rintro e w' ⟨rfl, z1, rfl⟩)
      go_roundw
      case rel => exact ⟨k + 1, setAll xs (k * 4) (Actn.enc x), by go_num, by omega, .of (Ext.setAll (Nat.le_refl _) (Actn.enc x) _ ((Ext.up (Ext.refl _) z).up z1)), ownsRow_setAll (Actn.enc x) _ (ownsRow_up Hown.out z1.ext), Hf.out.next Actn.enc_length Hx.out Hxl.out⟩
      case measure => simp [intOf]; omega
    · go_wp2_with fail
      go_ret
      obtain rfl : k = l.length := by omega
      refine ⟨_, rfl, ⟨z, rfl⟩, ?_⟩
      have e := Filled.all Actn.enc_length hown.1 hfill
      subst e
      exact hown
set_option maxHeartbeats 1000000 in
theorem eqActionS_same (l : List Actn) (v v' : Value) (w : World) (h : SL (RF Actn.enc) 4 w v l) (h' : SL (RF Actn.enc) 4 w v' l) :
    Calls Try.prog 41 #[v, v'] w fun e w' => e = .returned (.bool true) ∧ Up w w' := by
  obtain ⟨a, cap, rfl, hlen, hc⟩ := h.open
  obtain ⟨a', cap', rfl, _, hc'⟩ := h'.open
  go_enter Try.func41, Try.ntmps41
  go_wp2_with fail
  go_loopw [5] (fun s5 wr => ∃ (k : Nat), s5 = .int .i64 k ∧ k ≤ l.length ∧ Up w wr) (fun s5 _ => l.length - (intOf s5).toNat)
  case atStart => exact ⟨0, rfl, Nat.zero_le _, .of (Ext.refl _)⟩
  case round =>
    obtain ⟨k, rfl, hk, ⟨z, rfl⟩⟩ := hrel
    by_cases hlt : k < l.length
    · obtain ⟨x, hxk⟩ := getElem?_some_of_lt hlt
      obtain ⟨b, off, rfl, hb, hcc⟩ := hc k x hxk
      obtain ⟨b', off', rfl, hb', hdd⟩ := hc' k x hxk
      have c0 : w.cell? ⟨b, off + k * 4, none⟩ = some (.int .i64 x.kind) := hcc 0 _ rfl
      have c1 : w.cell? ⟨b, off + k * 4 + 1, none⟩ = some (.int .i64 x.src) := hcc 1 _ rfl
      have c2 : w.cell? ⟨b, off + k * 4 + 2, none⟩ = some (.int .i64 x.dst) := hcc 2 _ rfl
      have c3 : w.cell? ⟨b, off + k * 4 + 3, none⟩ = some (.int .i64 x.amt) := hcc 3 _ rfl
      have d0 : w.cell? ⟨b', off' + k * 4, none⟩ = some (.int .i64 x.kind) := hdd 0 _ rfl
      have d1 : w.cell? ⟨b', off' + k * 4 + 1, none⟩ = some (.int .i64 x.src) := hdd 1 _ rfl
      have d2 : w.cell? ⟨b', off' + k * 4 + 2, none⟩ = some (.int .i64 x.dst) := hdd 2 _ rfl
      have d3 : w.cell? ⟨b', off' + k * 4 + 3, none⟩ = some (.int .i64 x.amt) := hdd 3 _ rfl
      have k0 : (0 : Int) ≤ (k : Int) := by omega
      clear hc hcc hc' hdd hxk
      go_wp2_with fail
      (refine wp_region_up (by kernel_rfl) (by kernel_rfl) ?_; (repeat (go_big_quiet_step ((go_at_call 102; exact Calls.up (eqAction_same x _))))); refine wpQuiet_nil ?_; intro _ hw'; obtain ⟨zq, hw''⟩ := hw'; subst hw'')
      go_wp2_with fail
      go_roundw
      case rel => exact ⟨k + 1, by go_num, by omega, (.of (by repeat (first | exact Ext.refl _ | refine Ext.up ?_ _ | refine Ext.alloc ?_ _ | refine Ext.drew ?_ | refine Ext.setRow ?_ (by first | (dsimp only; omega) | exact LeS.le | exact LeS.add _ | (simp; done) | (simp; omega)) _ | refine Ext.setCell ?_ (by first | (dsimp only; omega) | exact LeS.le | exact LeS.add _ | (simp; done) | (simp; omega)) _)))⟩
      case measure => simp [intOf]; omega
    · go_wp2_with fail
      go_ret
      exact ⟨rfl, z, rfl⟩
set_option maxHeartbeats 1000000 in
theorem markActionS_any (lo : Nat) (l : List Actn) (v : Value) (m : Int) (w : World) (h : Own Actn.enc 86 4 lo w v l) (hm0 : 0 ≤ m) (hm1 : m ≤ 1000000000) (hn : l.length ≤ 1073741824) :
    Calls Try.prog 43 #[v, .int .i64 m] w fun e w' => e = .returned (.int .i64 (m + 4 * l.length)) ∧ w.grownBy w' v.ownBlock ∧ Own Actn.enc 86 4 lo w' v (marksActn m l.length) := by
  have h0 : w.ownsRow lo 86 4 v l.length (l.flatMap Actn.enc) := h
  rcases h.2 with ⟨rfl, hn0⟩ | ⟨g, cap, cur, hv, _⟩
  · have : l = [] := List.eq_nil_of_length_eq_zero hn0
    subst this
    go_enter Try.func43, Try.ntmps43
    go_wp2
    refine wp_loop_rounds 1 ?_; rw [rounds_succ]
    go_wp2
    go_ret
    exact ⟨by simp, ⟨rfl, rfl, rfl, Nat.le_refl _, fun _ _ _ => rfl⟩, h⟩
  subst hv
  clear h
  have hcl : l.length ≤ 9223372036854775807 := by omega
  go_enter Try.func43, Try.ntmps43
  go_wp2_with fail
  go_loopw [1, 5] (fun s1 s5 wr => ∃ (k : Nat) (xs : List Value), s5 = .int .i64 k ∧ s1 = .int .i64 (m + 4 * k) ∧ k ≤ l.length ∧ w.grownBy wr (some g) ∧ wr.ownsRow lo 86 4 (.slice (some ⟨g, 0, none⟩) l.length cap) l.length xs ∧ Filled Actn.enc 4 (marksActn m l.length) k xs) (fun _ s5 _ => l.length - (intOf s5).toNat)
  case atStart => exact ⟨0, _, rfl, by simp, Nat.zero_le _, ⟨rfl, rfl, rfl, Nat.le_refl _, fun _ _ _ => rfl⟩, h0, Filled.zero _ _ _ _⟩
  case round =>
    obtain ⟨k, xs, rfl, rfl, hk, hg, hown, hfill⟩ := hrel
    by_cases hlt : k < l.length
    · have hxl : xs.length = l.length * 4 := hown.1
      obtain ⟨u0, hu0⟩ := getElem?_some_of_lt (show k * 4 < xs.length by omega)
      obtain ⟨u1, hu1⟩ := getElem?_some_of_lt (show k * 4 + 1 < xs.length by omega)
      obtain ⟨u2, hu2⟩ := getElem?_some_of_lt (show k * 4 + 2 < xs.length by omega)
      obtain ⟨u3, hu3⟩ := getElem?_some_of_lt (show k * 4 + 3 < xs.length by omega)
      have d0 : wr.cell? ⟨g, k * 4, none⟩ = some u0 := (hown.cellAt _ (by omega)).trans hu0
      have f0 := hown.frozenAt (k * 4)
      have d1 : wr.cell? ⟨g, k * 4 + 1, none⟩ = some u1 := (hown.cellAt _ (by omega)).trans hu1
      have f1 := hown.frozenAt (k * 4 + 1)
      have d2 : wr.cell? ⟨g, k * 4 + 2, none⟩ = some u2 := (hown.cellAt _ (by omega)).trans hu2
      have f2 := hown.frozenAt (k * 4 + 2)
      have d3 : wr.cell? ⟨g, k * 4 + 3, none⟩ = some u3 := (hown.cellAt _ (by omega)).trans hu3
      have f3 := hown.frozenAt (k * 4 + 3)
      have hL : LtS g wr := LtS.of_some d0
      have hO := Lib.hid hown; have hF := Lib.hid hfill; have hXl := Lib.hid hxl; have hG := Lib.hid hg; have hH := Lib.hid h0
      clear hown hfill hxl hg h0 hu0 hu1 hu2 hu3
      go_wp2_with fail
      go_roundw
      case rel => exact ⟨k + 1, setAll xs (k * 4) (Actn.enc ⟨m + 4 * k, m + 4 * k + 1, m + 4 * k + 1 + 1, m + 4 * k + 1 + 1 + 1⟩), by go_num, by go_num, by omega, World.grownBy.setAll ([.int .i64 (m + 4 * k), .int .i64 (m + 4 * k + 1), .int .i64 (m + 4 * k + 1 + 1), .int .i64 (m + 4 * k + 1 + 1 + 1)]) (k * 4) hG.out, ownsRow_setAll ([.int .i64 (m + 4 * k), .int .i64 (m + 4 * k + 1), .int .i64 (m + 4 * k + 1 + 1), .int .i64 (m + 4 * k + 1 + 1 + 1)]) (k * 4) hO.out, hF.out.next Actn.enc_length (marksActn_get hlt) (by rw [marksActn_length]; exact hXl.out)⟩
      case measure => simp [intOf]; omega
    · go_wp2_with fail
      go_ret
      obtain rfl : k = l.length := by omega
      refine ⟨rfl, hg, ?_⟩
      have e := Filled.all (l := marksActn m l.length) Actn.enc_length (by rw [marksActn_length]; exact hown.1) (by rw [marksActn_length]; exact hfill)
      subst e
      show World.ownsRow _ _ _ _ _ _ _
      rw [marksActn_length]
      exact hown
set_option maxHeartbeats 1000000 in
theorem heldActionS_marks (n : Nat) (v : Value) (m : Int) (w : World) (h : SL (RF Actn.enc) 4 w v (marksActn m n)) (hm0 : 0 ≤ m) (hm1 : m ≤ 1000000000) (hn : n ≤ 1073741824) :
    Calls Try.prog 78 #[v, .int .i64 m] w fun e w' => e = .returned (.int .i64 (m + 4 * n)) ∧ w = w' := by
  obtain ⟨a, cap, rfl, _, hc⟩ := h.open
  rw [marksActn_length]
  go_enter Try.func78, Try.ntmps78
  go_wp2_with fail
  go_loop [1, 5] (fun s1 s5 => ∃ (k : Nat), s5 = .int .i64 k ∧ s1 = .int .i64 (m + 4 * k) ∧ k ≤ n) (fun _ s5 => n - (intOf s5).toNat)
  case atStart => exact ⟨0, rfl, by simp, Nat.zero_le _⟩
  case round =>
    obtain ⟨k, rfl, rfl, hk⟩ := hrel
    by_cases hlt : k < n
    · obtain ⟨b, off, rfl, hb, hcc⟩ := hc k _ (marksActn_get hlt)
      have c0 : w.cell? ⟨b, off + k * 4, none⟩ = some (.int .i64 (m + 4 * k)) := hcc 0 _ rfl
      have c1 : w.cell? ⟨b, off + k * 4 + 1, none⟩ = some (.int .i64 (m + 4 * k + 1)) := hcc 1 _ rfl
      have c2 : w.cell? ⟨b, off + k * 4 + 2, none⟩ = some (.int .i64 (m + 4 * k + 1 + 1)) := hcc 2 _ rfl
      have c3 : w.cell? ⟨b, off + k * 4 + 3, none⟩ = some (.int .i64 (m + 4 * k + 1 + 1 + 1)) := hcc 3 _ rfl
      clear hc hcc
      go_wp2_with fail
      go_round
      case rel => exact ⟨k + 1, by go_num, by go_num, by omega⟩
      case measure => simp [intOf]; omega
    · go_wp2_with fail
      go_ret
      obtain rfl : k = n := by omega
      exact ⟨rfl, rfl⟩
theorem toVersion_any (x : Ver) (w : World) : Calls Try.prog 87 #[.agg #[.int .i64 x.k, .int .i64 x.b, .int .i64 x.v]] w fun e w' => e = .returned (.agg #[.int .i64 x.k, .int .i64 x.b, .int .i64 x.v]) ∧ Up w w' := by
  go_enter Try.func87, Try.ntmps87
  go_wp2_with fail
  refine bodyPost_ret (v := .agg #[.int .i64 x.k, .int .i64 x.b, .int .i64 x.v]) (by simp [results, Try.results87, go_sem]) rfl ?_
  exact ⟨rfl, (.of (by repeat (first | exact Ext.refl _ | refine Ext.up ?_ _ | refine Ext.alloc ?_ _ | refine Ext.drew ?_ | refine Ext.setRow ?_ (by first | (dsimp only; omega) | exact LeS.le | exact LeS.add _ | (simp; done) | (simp; omega)) _ | refine Ext.setCell ?_ (by first | (dsimp only; omega) | exact LeS.le | exact LeS.add _ | (simp; done) | (simp; omega)) _)))⟩
theorem eqVersion_same (x : Ver) (w : World) : Calls Try.prog 92 #[.agg #[.int .i64 x.k, .int .i64 x.b, .int .i64 x.v], .agg #[.int .i64 x.k, .int .i64 x.b, .int .i64 x.v]] w fun e w' => e = .returned (.bool true) ∧ Up w w' := by
  go_enter Try.func92, Try.ntmps92
  go_wp2
  go_ret
  exact ⟨rfl, (.of (by repeat (first | exact Ext.refl _ | refine Ext.up ?_ _ | refine Ext.alloc ?_ _ | refine Ext.drew ?_ | refine Ext.setRow ?_ (by first | (dsimp only; omega) | exact LeS.le | exact LeS.add _ | (simp; done) | (simp; omega)) _ | refine Ext.setCell ?_ (by first | (dsimp only; omega) | exact LeS.le | exact LeS.add _ | (simp; done) | (simp; omega)) _)))⟩
theorem szVersionS_any (l : List Ver) (v : Value) (n : Int) (w : World) (h : SL (RF Ver.enc) 3 w v l) (hn0 : 0 ≤ n) (hn1 : n ≤ 1048576) :
    Calls Try.prog 28 #[v, .int .i64 n] w fun e w' => e = .returned (.int .i64 (szOf n l.length)) ∧ w = w' := by
  obtain ⟨a, cap, rfl, hlen, _⟩ := h.open
  unfold szOf
  go_enter Try.func28, Try.ntmps28
  go_wp2
  all_goals (go_ret; exact ⟨by simp [*], rfl⟩)
set_option maxHeartbeats 1000000 in
theorem toVersionS_any (l : List Ver) (v : Value) (w : World) (h : SL (RF Ver.enc) 3 w v l) (hn : l.length ≤ 1048576) :
    Calls Try.prog 30 #[v] w fun e w' => ∃ v', e = .returned v' ∧ Up w w' ∧ Own Ver.enc 108 3 w.heap.size w' v' l := by
  obtain ⟨a, cap, rfl, hlen, hc⟩ := h.open
  go_enter Try.func30, Try.ntmps30
  go_wp2_with (at_make; refine wpList_mk fVer rfl _ _ rfl l.length rfl rfl (by omega) (by omega) (Ext.refl _) ?_; intro z0 xs0 hown0)
  go_loopw [4] (fun s4 wr => ∃ (k : Nat) (xs : List Value), s4 = .int .i64 k ∧ k ≤ l.length ∧ Up w wr ∧ wr.ownsRow w.heap.size 108 3 (.slice (some ⟨w.heap.size, 0, none⟩) l.length l.length) l.length xs ∧ Filled Ver.enc 3 l k xs) (fun s4 _ => l.length - (intOf s4).toNat)
  case atStart => exact ⟨0, xs0, rfl, Nat.zero_le _, ⟨z0, rfl⟩, hown0, Filled.zero _ _ _ _⟩
  case round =>
    obtain ⟨k, xs, rfl, hk, ⟨z, rfl⟩, hown, hfill⟩ := hrel
    by_cases hlt : k < l.length
    · obtain ⟨x, hxk⟩ := getElem?_some_of_lt hlt
      obtain ⟨b, off, rfl, hb, hcc⟩ := hc k x hxk
      have c0 : w.cell? ⟨b, off + k * 3, none⟩ = some (.int .i64 x.k) := hcc 0 _ rfl
      have c1 : w.cell? ⟨b, off + k * 3 + 1, none⟩ = some (.int .i64 x.b) := hcc 1 _ rfl
      have c2 : w.cell? ⟨b, off + k * 3 + 2, none⟩ = some (.int .i64 x.v) := hcc 2 _ rfl
      have hxl : xs.length = l.length * 3 := hown.1
      obtain ⟨u0, hu0⟩ := getElem?_some_of_lt (show k * 3 < xs.length by omega)
      obtain ⟨u1, hu1⟩ := getElem?_some_of_lt (show k * 3 + 1 < xs.length by omega)
      obtain ⟨u2, hu2⟩ := getElem?_some_of_lt (show k * 3 + 2 < xs.length by omega)
      have d0 : z.val.cell? ⟨w.heap.size, k * 3, none⟩ = some u0 := (hown.cellAt _ (by omega)).trans hu0
      have f0 := hown.frozenAt (k * 3)
      have d1 : z.val.cell? ⟨w.heap.size, k * 3 + 1, none⟩ = some u1 := (hown.cellAt _ (by omega)).trans hu1
      have f1 := hown.frozenAt (k * 3 + 1)
      have d2 : z.val.cell? ⟨w.heap.size, k * 3 + 2, none⟩ = some u2 := (hown.cellAt _ (by omega)).trans hu2
      have f2 := hown.frozenAt (k * 3 + 2)
      have hL : LtS w.heap.size z.val := LtS.of_some d0
      have Hx := Lib.hid hxk; have Hown := Lib.hid hown; have Hf := Lib.hid hfill; have Hxl := Lib.hid hxl
      clear hc hcc hxk hown hfill hxl hu0 hu1 hu2
      go_wp2_with (go_at_call 87; refine (toVersion_any x _).mono ?_; rintro e w' ⟨rfl, z1, rfl⟩)
      go_roundw
      case rel => exact ⟨k + 1, setAll xs (k * 3) (Ver.enc x), by go_num, by omega, .of (Ext.setAll (Nat.le_refl _) (Ver.enc x) _ ((Ext.up (Ext.refl _) z).up z1)), ownsRow_setAll (Ver.enc x) _ (ownsRow_up Hown.out z1.ext), Hf.out.next Ver.enc_length Hx.out Hxl.out⟩
      case measure => simp [intOf]; omega
    · go_wp2_with fail
      go_ret
      obtain rfl : k = l.length := by omega
      refine ⟨_, rfl, ⟨z, rfl⟩, ?_⟩
      have e := Filled.all Ver.enc_length hown.1 hfill
      subst e
      exact hown
set_option maxHeartbeats 1000000 in
theorem eqVersionS_same (l : List Ver) (v v' : Value) (w : World) (h : SL (RF Ver.enc) 3 w v l) (h' : SL (RF Ver.enc) 3 w v' l) :
    Calls Try.prog 32 #[v, v'] w fun e w' => e = .returned (.bool true) ∧ Up w w' := by
  obtain ⟨a, cap, rfl, hlen, hc⟩ := h.open
  obtain ⟨a', cap', rfl, _, hc'⟩ := h'.open
  go_enter Try.func32, Try.ntmps32
  go_wp2_with fail
  go_loopw [5] (fun s5 wr => ∃ (k : Nat), s5 = .int .i64 k ∧ k ≤ l.length ∧ Up w wr) (fun s5 _ => l.length - (intOf s5).toNat)
  case atStart => exact ⟨0, rfl, Nat.zero_le _, .of (Ext.refl _)⟩
  case round =>
    obtain ⟨k, rfl, hk, ⟨z, rfl⟩⟩ := hrel
    by_cases hlt : k < l.length
    · obtain ⟨x, hxk⟩ := getElem?_some_of_lt hlt
      obtain ⟨b, off, rfl, hb, hcc⟩ := hc k x hxk
      obtain ⟨b', off', rfl, hb', hdd⟩ := hc' k x hxk
      have c0 : w.cell? ⟨b, off + k * 3, none⟩ = some (.int .i64 x.k) := hcc 0 _ rfl
      have c1 : w.cell? ⟨b, off + k * 3 + 1, none⟩ = some (.int .i64 x.b) := hcc 1 _ rfl
      have c2 : w.cell? ⟨b, off + k * 3 + 2, none⟩ = some (.int .i64 x.v) := hcc 2 _ rfl
      have d0 : w.cell? ⟨b', off' + k * 3, none⟩ = some (.int .i64 x.k) := hdd 0 _ rfl
      have d1 : w.cell? ⟨b', off' + k * 3 + 1, none⟩ = some (.int .i64 x.b) := hdd 1 _ rfl
      have d2 : w.cell? ⟨b', off' + k * 3 + 2, none⟩ = some (.int .i64 x.v) := hdd 2 _ rfl
      have k0 : (0 : Int) ≤ (k : Int) := by omega
      clear hc hcc hc' hdd hxk
      go_wp2_with fail
      (refine wp_region_up (by kernel_rfl) (by kernel_rfl) ?_; (repeat (go_big_quiet_step ((go_at_call 92; exact Calls.up (eqVersion_same x _))))); refine wpQuiet_nil ?_; intro _ hw'; obtain ⟨zq, hw''⟩ := hw'; subst hw'')
      go_wp2_with fail
      go_roundw
      case rel => exact ⟨k + 1, by go_num, by omega, (.of (by repeat (first | exact Ext.refl _ | refine Ext.up ?_ _ | refine Ext.alloc ?_ _ | refine Ext.drew ?_ | refine Ext.setRow ?_ (by first | (dsimp only; omega) | exact LeS.le | exact LeS.add _ | (simp; done) | (simp; omega)) _ | refine Ext.setCell ?_ (by first | (dsimp only; omega) | exact LeS.le | exact LeS.add _ | (simp; done) | (simp; omega)) _)))⟩
      case measure => simp [intOf]; omega
    · go_wp2_with fail
      go_ret
      exact ⟨rfl, z, rfl⟩
set_option maxHeartbeats 1000000 in
theorem markVersionS_any (lo : Nat) (l : List Ver) (v : Value) (m : Int) (w : World) (h : Own Ver.enc 108 3 lo w v l) (hm0 : 0 ≤ m) (hm1 : m ≤ 1000000000) (hn : l.length ≤ 1073741824) :
    Calls Try.prog 33 #[v, .int .i64 m] w fun e w' => e = .returned (.int .i64 (m + 3 * l.length)) ∧ w.grownBy w' v.ownBlock ∧ Own Ver.enc 108 3 lo w' v (marksVer m l.length) := by
  have h0 : w.ownsRow lo 108 3 v l.length (l.flatMap Ver.enc) := h
  rcases h.2 with ⟨rfl, hn0⟩ | ⟨g, cap, cur, hv, _⟩
  · have : l = [] := List.eq_nil_of_length_eq_zero hn0
    subst this
    go_enter Try.func33, Try.ntmps33
    go_wp2
    refine wp_loop_rounds 1 ?_; rw [rounds_succ]
    go_wp2
    go_ret
    exact ⟨by simp, ⟨rfl, rfl, rfl, Nat.le_refl _, fun _ _ _ => rfl⟩, h⟩
  subst hv
  clear h
  have hcl : l.length ≤ 9223372036854775807 := by omega
  go_enter Try.func33, Try.ntmps33
  go_wp2_with fail
  go_loopw [1, 5] (fun s1 s5 wr => ∃ (k : Nat) (xs : List Value), s5 = .int .i64 k ∧ s1 = .int .i64 (m + 3 * k) ∧ k ≤ l.length ∧ w.grownBy wr (some g) ∧ wr.ownsRow lo 108 3 (.slice (some ⟨g, 0, none⟩) l.length cap) l.length xs ∧ Filled Ver.enc 3 (marksVer m l.length) k xs) (fun _ s5 _ => l.length - (intOf s5).toNat)
  case atStart => exact ⟨0, _, rfl, by simp, Nat.zero_le _, ⟨rfl, rfl, rfl, Nat.le_refl _, fun _ _ _ => rfl⟩, h0, Filled.zero _ _ _ _⟩
  case round =>
    obtain ⟨k, xs, rfl, rfl, hk, hg, hown, hfill⟩ := hrel
    by_cases hlt : k < l.length
    · have hxl : xs.length = l.length * 3 := hown.1
      obtain ⟨u0, hu0⟩ := getElem?_some_of_lt (show k * 3 < xs.length by omega)
      obtain ⟨u1, hu1⟩ := getElem?_some_of_lt (show k * 3 + 1 < xs.length by omega)
      obtain ⟨u2, hu2⟩ := getElem?_some_of_lt (show k * 3 + 2 < xs.length by omega)
      have d0 : wr.cell? ⟨g, k * 3, none⟩ = some u0 := (hown.cellAt _ (by omega)).trans hu0
      have f0 := hown.frozenAt (k * 3)
      have d1 : wr.cell? ⟨g, k * 3 + 1, none⟩ = some u1 := (hown.cellAt _ (by omega)).trans hu1
      have f1 := hown.frozenAt (k * 3 + 1)
      have d2 : wr.cell? ⟨g, k * 3 + 2, none⟩ = some u2 := (hown.cellAt _ (by omega)).trans hu2
      have f2 := hown.frozenAt (k * 3 + 2)
      have hL : LtS g wr := LtS.of_some d0
      have hO := Lib.hid hown; have hF := Lib.hid hfill; have hXl := Lib.hid hxl; have hG := Lib.hid hg; have hH := Lib.hid h0
      clear hown hfill hxl hg h0 hu0 hu1 hu2
      go_wp2_with fail
      go_roundw
      case rel => exact ⟨k + 1, setAll xs (k * 3) (Ver.enc ⟨m + 3 * k, m + 3 * k + 1, m + 3 * k + 1 + 1⟩), by go_num, by go_num, by omega, World.grownBy.setAll ([.int .i64 (m + 3 * k), .int .i64 (m + 3 * k + 1), .int .i64 (m + 3 * k + 1 + 1)]) (k * 3) hG.out, ownsRow_setAll ([.int .i64 (m + 3 * k), .int .i64 (m + 3 * k + 1), .int .i64 (m + 3 * k + 1 + 1)]) (k * 3) hO.out, hF.out.next Ver.enc_length (marksVer_get hlt) (by rw [marksVer_length]; exact hXl.out)⟩
      case measure => simp [intOf]; omega
    · go_wp2_with fail
      go_ret
      obtain rfl : k = l.length := by omega
      refine ⟨rfl, hg, ?_⟩
      have e := Filled.all (l := marksVer m l.length) Ver.enc_length (by rw [marksVer_length]; exact hown.1) (by rw [marksVer_length]; exact hfill)
      subst e
      show World.ownsRow _ _ _ _ _ _ _
      rw [marksVer_length]
      exact hown
set_option maxHeartbeats 1000000 in
theorem heldVersionS_marks (n : Nat) (v : Value) (m : Int) (w : World) (h : SL (RF Ver.enc) 3 w v (marksVer m n)) (hm0 : 0 ≤ m) (hm1 : m ≤ 1000000000) (hn : n ≤ 1073741824) :
    Calls Try.prog 34 #[v, .int .i64 m] w fun e w' => e = .returned (.int .i64 (m + 3 * n)) ∧ w = w' := by
  obtain ⟨a, cap, rfl, _, hc⟩ := h.open
  rw [marksVer_length]
  go_enter Try.func34, Try.ntmps34
  go_wp2_with fail
  go_loop [1, 5] (fun s1 s5 => ∃ (k : Nat), s5 = .int .i64 k ∧ s1 = .int .i64 (m + 3 * k) ∧ k ≤ n) (fun _ s5 => n - (intOf s5).toNat)
  case atStart => exact ⟨0, rfl, by simp, Nat.zero_le _⟩
  case round =>
    obtain ⟨k, rfl, rfl, hk⟩ := hrel
    by_cases hlt : k < n
    · obtain ⟨b, off, rfl, hb, hcc⟩ := hc k _ (marksVer_get hlt)
      have c0 : w.cell? ⟨b, off + k * 3, none⟩ = some (.int .i64 (m + 3 * k)) := hcc 0 _ rfl
      have c1 : w.cell? ⟨b, off + k * 3 + 1, none⟩ = some (.int .i64 (m + 3 * k + 1)) := hcc 1 _ rfl
      have c2 : w.cell? ⟨b, off + k * 3 + 2, none⟩ = some (.int .i64 (m + 3 * k + 1 + 1)) := hcc 2 _ rfl
      clear hc hcc
      go_wp2_with fail
      go_round
      case rel => exact ⟨k + 1, by go_num, by go_num, by omega⟩
      case measure => simp [intOf]; omega
    · go_wp2_with fail
      go_ret
      obtain rfl : k = n := by omega
      exact ⟨rfl, rfl⟩
theorem szIntS_any (l : List Int) (v : Value) (n : Int) (w : World) (h : SL (RF encI) 1 w v l) (hn0 : 0 ≤ n) (hn1 : n ≤ 1048576) :
    Calls Try.prog 104 #[v, .int .i64 n] w fun e w' => e = .returned (.int .i64 (szOf n l.length)) ∧ w = w' := by
  obtain ⟨a, cap, rfl, hlen, _⟩ := h.open
  unfold szOf
  go_enter Try.func104, Try.ntmps104
  go_wp2
  all_goals (go_ret; exact ⟨by simp [*], rfl⟩)
set_option maxHeartbeats 1000000 in
theorem toIntS_any (l : List Int) (v : Value) (w : World) (h : SL (RF encI) 1 w v l) (hn : l.length ≤ 1048576) :
    Calls Try.prog 38 #[v] w fun e w' => ∃ v', e = .returned v' ∧ Up w w' ∧ Own encI 3 1 w.heap.size w' v' l := by
  obtain ⟨a, cap, rfl, hlen, hc⟩ := h.open
  go_enter Try.func38, Try.ntmps38
  go_wp2_with (at_make; refine wpList_mk fI rfl _ _ rfl l.length rfl rfl (by omega) (by omega) (Ext.refl _) ?_; intro z0 xs0 hown0)
  go_loopw [4] (fun s4 wr => ∃ (k : Nat) (xs : List Value), s4 = .int .i64 k ∧ k ≤ l.length ∧ Up w wr ∧ wr.ownsRow w.heap.size 3 1 (.slice (some ⟨w.heap.size, 0, none⟩) l.length l.length) l.length xs ∧ Filled encI 1 l k xs) (fun s4 _ => l.length - (intOf s4).toNat)
  case atStart => exact ⟨0, xs0, rfl, Nat.zero_le _, ⟨z0, rfl⟩, hown0, Filled.zero _ _ _ _⟩
  case round =>
    obtain ⟨k, xs, rfl, hk, ⟨z, rfl⟩, hown, hfill⟩ := hrel
    by_cases hlt : k < l.length
    · obtain ⟨x, hxk⟩ := getElem?_some_of_lt hlt
      obtain ⟨b, off, rfl, hb, hcc⟩ := hc k x hxk
      have c0 : w.cell? ⟨b, off + k, none⟩ = some (.int .i64 x) := by have := hcc 0 _ rfl; simpa using this
      have hxl : xs.length = l.length * 1 := hown.1
      obtain ⟨u0, hu0⟩ := getElem?_some_of_lt (show k < xs.length by omega)
      have d0 : z.val.cell? ⟨w.heap.size, k, none⟩ = some u0 := (hown.cellAt _ (by omega)).trans hu0
      have f0 := hown.frozenAt (k)
      have hL : LtS w.heap.size z.val := LtS.of_some d0
      have Hx := Lib.hid hxk; have Hown := Lib.hid hown; have Hf := Lib.hid hfill; have Hxl := Lib.hid hxl
      clear hc hcc hxk hown hfill hxl hu0
      go_wp2_with fail
      go_roundw
      case rel => exact ⟨k + 1, setAll xs (k) (encI x), by go_num, by omega, .of (Ext.setAll (Nat.le_refl _) (encI x) _ (Ext.up (Ext.refl _) z)), ownsRow_setAll (encI x) _ Hown.out, by have := Hf.out.next encI_length Hx.out Hxl.out; rwa [Nat.mul_one] at this⟩
      case measure => simp [intOf]; omega
    · go_wp2_with fail
      go_ret
      obtain rfl : k = l.length := by omega
      refine ⟨_, rfl, ⟨z, rfl⟩, ?_⟩
      have e := Filled.all encI_length hown.1 hfill
      subst e
      exact hown
set_option maxHeartbeats 1000000 in
theorem eqIntS_same (l : List Int) (v v' : Value) (w : World) (h : SL (RF encI) 1 w v l) (h' : SL (RF encI) 1 w v' l) :
    Calls Try.prog 42 #[v, v'] w fun e w' => e = .returned (.bool true) ∧ Up w w' := by
  obtain ⟨a, cap, rfl, hlen, hc⟩ := h.open
  obtain ⟨a', cap', rfl, _, hc'⟩ := h'.open
  go_enter Try.func42, Try.ntmps42
  go_wp2_with fail
  go_loopw [5] (fun s5 wr => ∃ (k : Nat), s5 = .int .i64 k ∧ k ≤ l.length ∧ Up w wr) (fun s5 _ => l.length - (intOf s5).toNat)
  case atStart => exact ⟨0, rfl, Nat.zero_le _, .of (Ext.refl _)⟩
  case round =>
    obtain ⟨k, rfl, hk, ⟨z, rfl⟩⟩ := hrel
    by_cases hlt : k < l.length
    · obtain ⟨x, hxk⟩ := getElem?_some_of_lt hlt
      obtain ⟨b, off, rfl, hb, hcc⟩ := hc k x hxk
      obtain ⟨b', off', rfl, hb', hdd⟩ := hc' k x hxk
      have c0 : w.cell? ⟨b, off + k, none⟩ = some (.int .i64 x) := by have := hcc 0 _ rfl; simpa using this
      have d0 : w.cell? ⟨b', off' + k, none⟩ = some (.int .i64 x) := by have := hdd 0 _ rfl; simpa using this
      have k0 : (0 : Int) ≤ (k : Int) := by omega
      clear hc hcc hc' hdd hxk
      go_wp2_with fail
      (refine wp_region_up (by kernel_rfl) (by kernel_rfl) ?_; (repeat (go_big_quiet_step (fail))); refine wpQuiet_nil ?_; intro _ hw'; obtain ⟨zq, hw''⟩ := hw'; subst hw'')
      go_wp2_with fail
      go_roundw
      case rel => exact ⟨k + 1, by go_num, by omega, (.of (by repeat (first | exact Ext.refl _ | refine Ext.up ?_ _ | refine Ext.alloc ?_ _ | refine Ext.drew ?_ | refine Ext.setRow ?_ (by first | (dsimp only; omega) | exact LeS.le | exact LeS.add _ | (simp; done) | (simp; omega)) _ | refine Ext.setCell ?_ (by first | (dsimp only; omega) | exact LeS.le | exact LeS.add _ | (simp; done) | (simp; omega)) _)))⟩
      case measure => simp [intOf]; omega
    · go_wp2_with fail
      go_ret
      exact ⟨rfl, z, rfl⟩
set_option maxHeartbeats 1000000 in
theorem markIntS_any (lo : Nat) (l : List Int) (v : Value) (m : Int) (w : World) (h : Own encI 3 1 lo w v l) (hm0 : 0 ≤ m) (hm1 : m ≤ 1000000000) (hn : l.length ≤ 1073741824) :
    Calls Try.prog 44 #[v, .int .i64 m] w fun e w' => e = .returned (.int .i64 (m + l.length)) ∧ w.grownBy w' v.ownBlock ∧ Own encI 3 1 lo w' v (marksI m l.length) := by
  have h0 : w.ownsRow lo 3 1 v l.length (l.flatMap encI) := h
  rcases h.2 with ⟨rfl, hn0⟩ | ⟨g, cap, cur, hv, _⟩
  · have : l = [] := List.eq_nil_of_length_eq_zero hn0
    subst this
    go_enter Try.func44, Try.ntmps44
    go_wp2
    refine wp_loop_rounds 1 ?_; rw [rounds_succ]
    go_wp2
    go_ret
    exact ⟨by simp, ⟨rfl, rfl, rfl, Nat.le_refl _, fun _ _ _ => rfl⟩, h⟩
  subst hv
  clear h
  have hcl : l.length ≤ 9223372036854775807 := by omega
  go_enter Try.func44, Try.ntmps44
  go_wp2_with fail
  go_loopw [1, 5] (fun s1 s5 wr => ∃ (k : Nat) (xs : List Value), s5 = .int .i64 k ∧ s1 = .int .i64 (m + k) ∧ k ≤ l.length ∧ w.grownBy wr (some g) ∧ wr.ownsRow lo 3 1 (.slice (some ⟨g, 0, none⟩) l.length cap) l.length xs ∧ Filled encI 1 (marksI m l.length) k xs) (fun _ s5 _ => l.length - (intOf s5).toNat)
  case atStart => exact ⟨0, _, rfl, by simp, Nat.zero_le _, ⟨rfl, rfl, rfl, Nat.le_refl _, fun _ _ _ => rfl⟩, h0, Filled.zero _ _ _ _⟩
  case round =>
    obtain ⟨k, xs, rfl, rfl, hk, hg, hown, hfill⟩ := hrel
    by_cases hlt : k < l.length
    · have hxl : xs.length = l.length * 1 := hown.1
      obtain ⟨u0, hu0⟩ := getElem?_some_of_lt (show k < xs.length by omega)
      have d0 : wr.cell? ⟨g, k, none⟩ = some u0 := (hown.cellAt _ (by omega)).trans hu0
      have f0 := hown.frozenAt (k)
      have hL : LtS g wr := LtS.of_some d0
      have hO := Lib.hid hown; have hF := Lib.hid hfill; have hXl := Lib.hid hxl; have hG := Lib.hid hg; have hH := Lib.hid h0
      clear hown hfill hxl hg h0 hu0
      go_wp2_with fail
      go_roundw
      case rel => exact ⟨k + 1, setAll xs k (encI (m + k)), by go_num, by go_num, by omega, World.grownBy.setAll ([.int .i64 (m + k)]) (k) hG.out, ownsRow_setAll ([.int .i64 (m + k)]) (k) hO.out, (by have := hF.out.next encI_length (marksI_get hlt) (by rw [marksI_length]; exact hXl.out); rwa [Nat.mul_one] at this)⟩
      case measure => simp [intOf]; omega
    · go_wp2_with fail
      go_ret
      obtain rfl : k = l.length := by omega
      refine ⟨rfl, hg, ?_⟩
      have e := Filled.all (l := marksI m l.length) encI_length (by rw [marksI_length]; exact hown.1) (by rw [marksI_length]; exact hfill)
      subst e
      show World.ownsRow _ _ _ _ _ _ _
      rw [marksI_length]
      exact hown
set_option maxHeartbeats 1000000 in
theorem heldIntS_marks (n : Nat) (v : Value) (m : Int) (w : World) (h : SL (RF encI) 1 w v (marksI m n)) (hm0 : 0 ≤ m) (hm1 : m ≤ 1000000000) (hn : n ≤ 1073741824) :
    Calls Try.prog 58 #[v, .int .i64 m] w fun e w' => e = .returned (.int .i64 (m + n)) ∧ w = w' := by
  obtain ⟨a, cap, rfl, _, hc⟩ := h.open
  rw [marksI_length]
  go_enter Try.func58, Try.ntmps58
  go_wp2_with fail
  go_loop [1, 5] (fun s1 s5 => ∃ (k : Nat), s5 = .int .i64 k ∧ s1 = .int .i64 (m + k) ∧ k ≤ n) (fun _ s5 => n - (intOf s5).toNat)
  case atStart => exact ⟨0, rfl, by simp, Nat.zero_le _⟩
  case round =>
    obtain ⟨k, rfl, rfl, hk⟩ := hrel
    by_cases hlt : k < n
    · obtain ⟨b, off, rfl, hb, hcc⟩ := hc k _ (marksI_get hlt)
      have c0 : w.cell? ⟨b, off + k, none⟩ = some (.int .i64 (m + k)) := by have := hcc 0 _ rfl; simpa using this
      clear hc hcc
      go_wp2_with fail
      go_round
      case rel => exact ⟨k + 1, by go_num, by go_num, by omega⟩
      case measure => simp [intOf]; omega
    · go_wp2_with fail
      go_ret
      obtain rfl : k = n := by omega
      exact ⟨rfl, rfl⟩
end Go.Proofs.Ytknohbdhbjppjaa
