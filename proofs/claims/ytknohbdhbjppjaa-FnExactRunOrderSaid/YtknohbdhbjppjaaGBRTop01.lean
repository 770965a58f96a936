/- Ground for the rows of this seat: the program's closed facts; the decoders of the laws' parameter types. Walks: the small functions on numbers. -/
import Derived.Test.YtknohbdhbjppjaaRows
import Derived.Test.YtknohbdhbjppjaaGBRTop00
import Derived.Test.YtknohbdhbjppjaaProg
set_option linter.unusedSimpArgs false
set_option linter.unusedVariables false
namespace Go.Proofs.Ytknohbdhbjppjaa
open Go.ChangeShapes Go.WideShapes Go.ChangeAt Go.RowKit

theorem Try.own : ownKnob Try.prog.godebug = none := by kernel_rfl
theorem Try.laidOut : laidOutB Try.prog = true := by kernel_rfl
theorem Try.c_int : Try.prog.cellsOf 3 = 1 := by kernel_rfl

set_option maxRecDepth 100000 in
theorem dec_Version : Dec Try.prog 110 3 (RF Ver.enc) := by
  intro H enc W sp held fuel cs x h
  obtain ⟨hl, hf⟩ := trod_fields Try.underlying110 h
  have hl3 : cs.length = 3 := hl.trans (by kernel_rfl)
  refine ⟨hl3, ?_⟩
  match cs, hl3 with
  | [a, b, c], _ =>
    obtain ⟨n0, y0, h0⟩ := hf 0 _ rfl
    obtain ⟨n1, y1, h1⟩ := hf 1 _ rfl
    obtain ⟨n2, y2, h2⟩ := hf 2 _ rfl
    obtain ⟨_, x0, e0, _⟩ := dec_int Try.underlying3 _ enc W sp held _ _ _ h0
    obtain ⟨_, x1, e1, _⟩ := dec_int Try.underlying3 _ enc W sp held _ _ _ h1
    obtain ⟨_, x2, e2, _⟩ := dec_int Try.underlying3 _ enc W sp held _ _ _ h2
    simp [Try.c_int] at e0 e1 e2
    exact ⟨⟨x0, x1, x2⟩, by simp [RF, Ver.enc, e0, e1, e2]⟩
theorem dec_VersionS : Dec Try.prog 42 1 (RSl (RF Ver.enc) 3) := dec_slice Try.underlying42 (by kernel_rfl) (by decide) dec_Version
set_option maxRecDepth 100000 in
theorem dec_Entry : Dec Try.prog 99 2 (RF Ent.enc) := by
  intro H enc W sp held fuel cs x h
  obtain ⟨hl, hf⟩ := trod_fields Try.underlying99 h
  have hl2 : cs.length = 2 := hl.trans (by kernel_rfl)
  refine ⟨hl2, ?_⟩
  match cs, hl2 with
  | [a, b], _ =>
    obtain ⟨n0, y0, h0⟩ := hf 0 _ rfl
    obtain ⟨n1, y1, h1⟩ := hf 1 _ rfl
    obtain ⟨_, x0, e0, _⟩ := dec_int Try.underlying3 _ enc W sp held _ _ _ h0
    obtain ⟨_, x1, e1, _⟩ := dec_int Try.underlying3 _ enc W sp held _ _ _ h1
    simp [Try.c_int] at e0 e1
    exact ⟨⟨x0, x1⟩, by simp [RF, Ent.enc, e0, e1]⟩
theorem dec_EntryS : Dec Try.prog 22 1 (RSl (RF Ent.enc) 2) := dec_slice Try.underlying22 (by kernel_rfl) (by decide) dec_Entry
set_option maxRecDepth 100000 in
theorem dec_Action : Dec Try.prog 119 4 (RF Actn.enc) := by
  intro H enc W sp held fuel cs x h
  obtain ⟨hl, hf⟩ := trod_fields Try.underlying119 h
  have hl4 : cs.length = 4 := hl.trans (by kernel_rfl)
  refine ⟨hl4, ?_⟩
  match cs, hl4 with
  | [a, b, c, d], _ =>
    obtain ⟨n0, y0, h0⟩ := hf 0 _ rfl
    obtain ⟨n1, y1, h1⟩ := hf 1 _ rfl
    obtain ⟨n2, y2, h2⟩ := hf 2 _ rfl
    obtain ⟨n3, y3, h3⟩ := hf 3 _ rfl
    obtain ⟨_, x0, e0, _⟩ := dec_int Try.underlying3 _ enc W sp held _ _ _ h0
    obtain ⟨_, x1, e1, _⟩ := dec_int Try.underlying3 _ enc W sp held _ _ _ h1
    obtain ⟨_, x2, e2, _⟩ := dec_int Try.underlying3 _ enc W sp held _ _ _ h2
    obtain ⟨_, x3, e3, _⟩ := dec_int Try.underlying3 _ enc W sp held _ _ _ h3
    simp [Try.c_int] at e0 e1 e2 e3
    exact ⟨⟨x0, x1, x2, x3⟩, by simp [RF, Actn.enc, e0, e1, e2, e3]⟩
theorem dec_ActionS : Dec Try.prog 51 1 (RSl (RF Actn.enc) 4) := dec_slice Try.underlying51 (by kernel_rfl) (by decide) dec_Action
theorem dec_Int : Dec Try.prog 3 1 RInt := dec_int Try.underlying3
theorem dec_IntF : Dec Try.prog 3 1 (RF encI) := by
  intro H enc W sp held fuel cs x h
  obtain ⟨h1, n, h2, _⟩ := dec_Int H enc W sp held fuel cs x h
  exact ⟨h1, n, h2⟩
theorem dec_IntS : Dec Try.prog 36 1 (RSl (RF encI) 1) := dec_slice Try.underlying36 (by kernel_rfl) (by decide) dec_IntF
set_option maxRecDepth 100000 in
theorem open_sl {α : Type} {t e sz : Nat} {R : World → List Value → α → Prop} (hd : Dec Try.prog t 1 (RSl R sz)) (ht : Try.prog.underlying t = some (.slice e)) {H : Type} {enc : TypeId × Value → H} {W : World} {sp : Nat → Bool} {held : Bool} {v : Value} {d : DataW H} {ps : List MemPlace} {r : Reach} {b0 : Nat}
    (hok : Value.okWide Try.prog W r b0 t v) (h : DataW.Trod enc Try.prog W 0 sp held t v d ps) : ∃ l, SL R sz W v l := by
  obtain ⟨a, len, cap, rfl⟩ := okWide_slice ht hok
  obtain ⟨l, v', e, hl⟩ := hd.one (fun _ h => by cases h) h
  cases e; exact ⟨l, hl⟩
set_option maxRecDepth 100000 in
theorem open_i {H : Type} {enc : TypeId × Value → H} {W : World} {sp : Nat → Bool} {held : Bool} {v : Value} {d : DataW H} {ps : List MemPlace} {r : Reach} {b0 : Nat}
    (hok : Value.okWide Try.prog W r b0 3 v) (h : DataW.Trod enc Try.prog W 0 sp held 3 v d ps) : ∃ n, v = .int .i64 n ∧ I64 n := by
  obtain ⟨x, rfl, _, _, wx⟩ := open_int Try.underlying3 hok h
  exact ⟨x, rfl, I64.of_wf wx⟩
end Go.Proofs.Ytknohbdhbjppjaa
namespace Go.Proofs.Ytknohbdhbjppjaa
open Go Go.RowKit Go.Proofs
theorem in_any (n lo hi : Int) (w : World) : Calls Try.prog 89 #[.int .i64 n, .int .i64 lo, .int .i64 hi] w fun e w' => e = .returned (.bool (inR n lo hi)) ∧ w = w' := by
  unfold inR
  by_cases h : lo ≤ n
  · go_enter Try.func89, Try.ntmps89
    go_wp2
    go_ret; exact ⟨by simp [h], rfl⟩
  · have h' : decide (lo ≤ n) = false := by simpa using h
    go_enter Try.func89, Try.ntmps89
    go_wp2
    go_ret; exact ⟨by simp, rfl⟩
theorem l1In_any (n lo hi : Int) (w : World) : Calls Try.prog 84 #[.int .i64 n, .int .i64 lo, .int .i64 hi] w fun e w' => e = .returned (.bool (inR n lo hi)) ∧ w = w' := by
  unfold inR
  by_cases h : lo ≤ n
  · go_enter Try.func84, Try.ntmps84
    go_wp2
    go_ret; exact ⟨by simp [h], rfl⟩
  · have h' : decide (lo ≤ n) = false := by simpa using h
    go_enter Try.func84, Try.ntmps84
    go_wp2
    go_ret; exact ⟨by simp, rfl⟩
theorem isKey_any (n : Int) (w : World) : Calls Try.prog 138 #[.int .i64 n] w fun e w' => e = .returned (.bool (inR n 0 31)) ∧ w = w' := by
  go_enter Try.func138, Try.ntmps138
  go_wp2_with (go_at_call 89; refine (in_any _ _ _ _).mono ?_; rintro e w' ⟨rfl, rfl⟩)
  go_ret
  exact ⟨rfl, rfl⟩
theorem isValue_any (n : Int) (w : World) : Calls Try.prog 139 #[.int .i64 n] w fun e w' => e = .returned (.bool (inR n 0 1000000)) ∧ w = w' := by
  go_enter Try.func139, Try.ntmps139
  go_wp2_with (go_at_call 89; refine (in_any _ _ _ _).mono ?_; rintro e w' ⟨rfl, rfl⟩)
  go_ret
  exact ⟨rfl, rfl⟩
theorem isSum_any (n : Int) (w : World) : Calls Try.prog 152 #[.int .i64 n] w fun e w' => e = .returned (.bool (inR n 0 1000002)) ∧ w = w' := by
  go_enter Try.func152, Try.ntmps152
  go_wp2_with (go_at_call 89; refine (in_any _ _ _ _).mono ?_; rintro e w' ⟨rfl, rfl⟩)
  go_ret
  exact ⟨rfl, rfl⟩
theorem isView_any (n : Int) (w : World) : Calls Try.prog 153 #[.int .i64 n] w fun e w' => e = .returned (.bool (inR n 0 1000)) ∧ w = w' := by
  go_enter Try.func153, Try.ntmps153
  go_wp2_with (go_at_call 89; refine (in_any _ _ _ _).mono ?_; rintro e w' ⟨rfl, rfl⟩)
  go_ret
  exact ⟨rfl, rfl⟩
theorem isSummed_any (n : Int) (w : World) : Calls Try.prog 168 #[.int .i64 n] w fun e w' => e = .returned (.bool (inR n 0 2000000)) ∧ w = w' := by
  go_enter Try.func168, Try.ntmps168
  go_wp2_with (go_at_call 89; refine (in_any _ _ _ _).mono ?_; rintro e w' ⟨rfl, rfl⟩)
  go_ret
  exact ⟨rfl, rfl⟩
/-- cmp.Or of two. -/
theorem cmpOr2 (x y : Int) (b : Nat) (w : World) (h0 : w.cell? ⟨b, 0, none⟩ = some (.int .i64 x)) (h1 : w.cell? ⟨b, 1, none⟩ = some (.int .i64 y)) :
    Calls Try.prog 120 #[.slice (some ⟨b, 0, none⟩) 2 2] w fun e w' => e = .returned (.int .i64 (or2 x y)) ∧ w = w' := by
  unfold or2
  by_cases hx : x = 0
  · subst hx
    by_cases hy : y = 0
    · subst hy
      go_enter Try.func120, Try.ntmps120
      go_wp2
      refine wp_loop_rounds 3 ?_; rw [rounds_succ]
      go_wp2
      rw [rounds_succ]
      go_wp2
      rw [rounds_succ]
      go_wp2
      go_ret; exact ⟨by simp, rfl⟩
    · have hy' : (y == 0) = false := by simpa using hy
      have hy2 : (y != 0) = true := by simpa using hy
      go_enter Try.func120, Try.ntmps120
      go_wp2
      refine wp_loop_rounds 2 ?_; rw [rounds_succ]
      go_wp2
      rw [rounds_succ]
      go_wp2
      go_ret; exact ⟨by simp, rfl⟩
  · have hy' : (x == 0) = false := by simpa using hx
    have hy2 : (x != 0) = true := by simpa using hx
    go_enter Try.func120, Try.ntmps120
    go_wp2
    refine wp_loop_rounds 1 ?_; rw [rounds_succ]
    go_wp2
    go_ret; exact ⟨by simp [hx], rfl⟩
end Go.Proofs.Ytknohbdhbjppjaa
