/- Plain laws: what actions do with values. Walks: actions. Walks: actions: the keys that they read and write; conflicts. Walks: actions: masks, conflicts. Walks: lists of actions, blocks. -/
import Derived.Test.YtkboefmkfpnpjaaGEvTop04
import Derived.Test.YtkboefmkfpnpjaaProg
import Derived.Test.YtkboefmkfpnpjaaGEvTop01
import Derived.Deep.DeepCutAuto
set_option linter.unusedSimpArgs false
set_option linter.unusedVariables false
namespace Go.Proofs.Ytkboefmkfpnpjaa
open Go Go.RowKit

structure Eff where
  d : Bool
  r : List Ent
  w : List Ent
def Actn.rds (x : Actn) (f t : Int) : List Ent := x.rk.map fun key => ⟨key, if key = x.src then f else t⟩
def sort2 (a b : Ent) : List Ent := if a.k < b.k then [a, b] else [b, a]
def Actn.don (x : Actn) (f t : Int) : Bool := if x.kind = 5 then decide (f + t ≤ 1000000) else if x.kind = 2 then decide (x.amt ≤ f) && (decide (x.src = x.dst) || decide (t + x.amt ≤ 1000000)) else true
def Actn.wrs (x : Actn) (f t : Int) : List Ent :=
  if x.kind = 1 then [⟨x.src, x.amt⟩] else if x.kind = 6 then [⟨x.src, max 0 (f - x.amt)⟩] else if x.kind = 3 then [⟨x.dst, f⟩] else if x.kind = 5 then [⟨x.dst, f + t⟩]
  else if x.src = x.dst then [⟨x.dst, f⟩] else if x.kind = 4 then sort2 ⟨x.src, t⟩ ⟨x.dst, f⟩ else sort2 ⟨x.src, f - x.amt⟩ ⟨x.dst, t + x.amt⟩
def runE (x : Actn) (f t : Int) : Eff := ⟨x.don f t, x.rds f t, if x.don f t = true then x.wrs f t else []⟩
theorem one_ok {least k v : Int} (k0 : 0 ≤ k) (k1 : k ≤ 31) (v0 : least ≤ v) (v1 : v ≤ 1000000) : entsOk least [⟨k, v⟩] = true :=
  entsOk_of (by simp) (by intro x hx; simp at hx; subst hx; exact ⟨k0, k1, v0, v1⟩)
theorem sort2_ok {least : Int} {a b : Ent} (hne : a.k ≠ b.k) (a0 : 0 ≤ a.k) (a1 : a.k ≤ 31) (a2 : least ≤ a.v) (a3 : a.v ≤ 1000000) (b0 : 0 ≤ b.k) (b1 : b.k ≤ 31) (b2 : least ≤ b.v) (b3 : b.v ≤ 1000000) : entsOk least (sort2 a b) = true := by
  unfold sort2
  split
  · refine entsOk_of (by simp; assumption) (by intro x hx; simp at hx; rcases hx with rfl | rfl <;> omega)
  · refine entsOk_of (by simp; omega) (by intro x hx; simp at hx; rcases hx with rfl | rfl <;> omega)
theorem runE_ok {x : Actn} {f t : Int} (h : x.ok = true) (f0 : 0 ≤ f) (f1 : f ≤ 1000000) (t0 : 0 ≤ t) (t1 : t ≤ 1000000) : entsOk 0 (runE x f t).w = true := by
  simp only [Actn.ok, Bool.and_eq_true, inR_iff] at h
  obtain ⟨⟨s0, s1⟩, ⟨d0, d1⟩, ⟨a0, a1⟩, hko⟩ := h
  unfold runE
  dsimp only
  split
  · rename_i hd
    unfold Actn.don at hd
    unfold Actn.wrs
    split
    · exact one_ok s0 s1 a0 a1
    split
    · exact one_ok s0 s1 (by omega) (by omega)
    split
    · exact one_ok d0 d1 f0 f1
    split
    · rename_i h5
      rw [if_pos h5, decide_eq_true_eq] at hd
      exact one_ok d0 d1 (by omega) hd
    split
    · exact one_ok d0 d1 f0 f1
    split
    · exact sort2_ok (by assumption) s0 s1 t0 t1 d0 d1 f0 f1
    · rename_i h1 h6 h3 h5 hsd h4
      rw [if_neg h5] at hd
      split at hd
      · simp only [Bool.and_eq_true, Bool.or_eq_true, decide_eq_true_eq] at hd
        exact sort2_ok (by assumption) s0 s1 (by show (0 : Int) ≤ f - x.amt; omega) (by show f - x.amt ≤ 1000000; omega) d0 d1 (by show (0 : Int) ≤ t + x.amt; omega) (by show t + x.amt ≤ 1000000; rcases hd.2 with h | h; exact absurd h hsd; exact h)
      · rename_i h2
        unfold kindOk at hko
        rw [if_neg (by omega), if_neg (by omega), decide_eq_true_eq] at hko
        exact absurd hko h2
  · rfl
def runV (v : List Int) (x : Actn) : Eff := runE x (v.getD x.src.toNat 0) (v.getD x.dst.toNat 0)
/-- Actions one after the other. -/
def runStep (p : List Int × List Eff) (x : Actn) : List Int × List Eff := (vsets p.1 (runV p.1 x).w, p.2 ++ [runV p.1 x])
def runAll (v : List Int) (l : List Actn) : List Int × List Eff := l.foldl runStep (v, [])
theorem runAll_snoc (v : List Int) {l : List Actn} {k : Nat} {x : Actn} (h : l[k]? = some x) : runAll v (l.take (k + 1)) = runStep (runAll v (l.take k)) x := by
  rw [List.take_add_one, h]; simp [runAll]
theorem runV_ok {v : List Int} (hv : valsIn v) {x : Actn} (h : x.ok = true) : entsOk 0 (runV v x).w = true :=
  runE_ok h (valsIn_get hv _).1 (valsIn_get hv _).2 (valsIn_get hv _).1 (valsIn_get hv _).2
theorem runStep_in {p : List Int × List Eff} (hv : valsIn p.1) {x : Actn} (h : x.ok = true) : valsIn (runStep p x).1 :=
  valsIn_vsets (fun y hy => by have := entsOk_mem (runV_ok hv h) hy; exact ⟨this.2.2.1, this.2.2.2⟩) hv
theorem runAll_in {v : List Int} (hv : valsIn v) : ∀ {l : List Actn}, (∀ x ∈ l, x.ok = true) → valsIn (runAll v l).1 := by
  have key : ∀ (l : List Actn) (p : List Int × List Eff), valsIn p.1 → (∀ x ∈ l, x.ok = true) → valsIn (l.foldl runStep p).1 := by
    intro l
    induction l with
    | nil => intro p h _; exact h
    | cons x l ih => intro p h hl; exact ih _ (runStep_in h (hl x (by simp))) fun y hy => hl y (by simp [hy])
  intro l hl
  exact key l (v, []) hv hl
/-- The reference's way: entry by entry into the store. -/
def putAll (s : List Ent) (u : List Ent) : List Ent := u.foldl (fun s e => putF (decide (e.v = 0)) e.k e.v s) s
theorem putAll_snoc (s : List Ent) {u : List Ent} {k : Nat} {e : Ent} (h : u[k]? = some e) : putAll s (u.take (k + 1)) = putF (decide (e.v = 0)) e.k e.v (putAll s (u.take k)) := by
  rw [List.take_add_one, h]; simp [putAll]
theorem putAll_cons (s : List Ent) (e : Ent) (u : List Ent) : putAll s (e :: u) = putAll (putF (decide (e.v = 0)) e.k e.v s) u := by unfold putAll; rw [List.foldl_cons]
theorem putAll_store : ∀ {u : List Ent} {v : List Int}, valsIn v → (∀ e ∈ u, 0 ≤ e.k ∧ e.k ≤ 31 ∧ 0 ≤ e.v ∧ e.v ≤ 1000000) → putAll (storeOf v) u = storeOf (vsets v u)
  | [], v, _, _ => rfl
  | e :: u, v, h, hu => by
    have he := hu e (by simp)
    rw [putAll_cons, putF_store h he.1 he.2.1 he.2.2.1 he.2.2.2]
    rw [show vsets v (e :: u) = vsets (vset v e) u from rfl]
    exact putAll_store (valsIn_set h ⟨he.2.2.1, he.2.2.2⟩) fun e' he' => hu e' (by simp [he'])
theorem runE_store {v : List Int} (hv : valsIn v) {x : Actn} (h : x.ok = true) : runE x (atK (storeOf v) x.src) (atK (storeOf v) x.dst) = runV v x := by
  simp only [Actn.ok, Bool.and_eq_true, inR_iff] at h
  obtain ⟨⟨s0, s1⟩, ⟨d0, d1⟩, _⟩ := h
  have h1 := atK_storeOf hv (n := x.src.toNat) (by omega)
  have h2 := atK_storeOf hv (n := x.dst.toNat) (by omega)
  rw [show ((x.src.toNat : Nat) : Int) = x.src from by omega] at h1
  rw [show ((x.dst.toNat : Nat) : Int) = x.dst from by omega] at h2
  rw [h1, h2]; rfl
end Go.Proofs.Ytkboefmkfpnpjaa
namespace Go.Proofs.Ytkboefmkfpnpjaa
open Go Go.RowKit Go.Proofs

theorem eq_cases (a b : Int) : (a = b ∧ (a == b) = true) ∨ (a ≠ b ∧ (a == b) = false) := by by_cases h : a = b <;> simp [h]

set_option maxHeartbeats 2000000 in
theorem iActionValid_any (x : Actn) (w : World) : Calls Try.prog 61 #[.agg #[.int .i64 x.kind, .int .i64 x.src, .int .i64 x.dst, .int .i64 x.amt]] w fun e w' => e = .returned (.bool x.ok) ∧ Up w w' := by
  obtain ⟨kind, src, dst, amt⟩ := x
  dsimp only
  rcases guards3 (inR src 0 31) (inR dst 0 31) (inR amt 0 1000000) with h1 | ⟨h1, h2⟩ | ⟨h1, h2, h3⟩ | ⟨h1, h2, h3⟩
  rotate_right
  rcases kinds kind with hk | hk | hk | hk | hk | hk | ⟨k1, k2, k3, k4, k5, k6⟩
  · subst hk
    go_enter Try.func61, Try.ntmps61
    go_wp2_with (first | (go_at_call 91; refine (isKey_any _ _).mono ?_; rintro e w' ⟨rfl, rfl⟩) | (go_at_call 98; refine (isValue_any _ _).mono ?_; rintro e w' ⟨rfl, rfl⟩))
    all_goals (go_ret; exact ⟨by simp [Actn.ok, kindOk, *] <;> rfl, (.of (by repeat (first | exact Ext.refl _ | refine Ext.up ?_ _ | refine Ext.alloc ?_ _ | refine Ext.drew ?_ | refine Ext.setRow ?_ (by first | (dsimp only; omega) | exact LeS.le | exact LeS.add _ | (simp; done) | (simp; omega)) _ | refine Ext.setCell ?_ (by first | (dsimp only; omega) | exact LeS.le | exact LeS.add _ | (simp; done) | (simp; omega)) _)))⟩)
  · subst hk
    go_enter Try.func61, Try.ntmps61
    go_wp2_with (first | (go_at_call 91; refine (isKey_any _ _).mono ?_; rintro e w' ⟨rfl, rfl⟩) | (go_at_call 98; refine (isValue_any _ _).mono ?_; rintro e w' ⟨rfl, rfl⟩))
    all_goals (go_ret; exact ⟨by simp [Actn.ok, kindOk, *] <;> rfl, (.of (by repeat (first | exact Ext.refl _ | refine Ext.up ?_ _ | refine Ext.alloc ?_ _ | refine Ext.drew ?_ | refine Ext.setRow ?_ (by first | (dsimp only; omega) | exact LeS.le | exact LeS.add _ | (simp; done) | (simp; omega)) _ | refine Ext.setCell ?_ (by first | (dsimp only; omega) | exact LeS.le | exact LeS.add _ | (simp; done) | (simp; omega)) _)))⟩)
  · subst hk
    go_enter Try.func61, Try.ntmps61
    go_wp2_with (first | (go_at_call 91; refine (isKey_any _ _).mono ?_; rintro e w' ⟨rfl, rfl⟩) | (go_at_call 98; refine (isValue_any _ _).mono ?_; rintro e w' ⟨rfl, rfl⟩))
    all_goals (go_ret; exact ⟨by simp [Actn.ok, kindOk, *] <;> rfl, (.of (by repeat (first | exact Ext.refl _ | refine Ext.up ?_ _ | refine Ext.alloc ?_ _ | refine Ext.drew ?_ | refine Ext.setRow ?_ (by first | (dsimp only; omega) | exact LeS.le | exact LeS.add _ | (simp; done) | (simp; omega)) _ | refine Ext.setCell ?_ (by first | (dsimp only; omega) | exact LeS.le | exact LeS.add _ | (simp; done) | (simp; omega)) _)))⟩)
  · subst hk
    go_enter Try.func61, Try.ntmps61
    go_wp2_with (first | (go_at_call 91; refine (isKey_any _ _).mono ?_; rintro e w' ⟨rfl, rfl⟩) | (go_at_call 98; refine (isValue_any _ _).mono ?_; rintro e w' ⟨rfl, rfl⟩))
    all_goals (go_ret; exact ⟨by simp [Actn.ok, kindOk, *] <;> rfl, (.of (by repeat (first | exact Ext.refl _ | refine Ext.up ?_ _ | refine Ext.alloc ?_ _ | refine Ext.drew ?_ | refine Ext.setRow ?_ (by first | (dsimp only; omega) | exact LeS.le | exact LeS.add _ | (simp; done) | (simp; omega)) _ | refine Ext.setCell ?_ (by first | (dsimp only; omega) | exact LeS.le | exact LeS.add _ | (simp; done) | (simp; omega)) _)))⟩)
  · subst hk
    go_enter Try.func61, Try.ntmps61
    go_wp2_with (first | (go_at_call 91; refine (isKey_any _ _).mono ?_; rintro e w' ⟨rfl, rfl⟩) | (go_at_call 98; refine (isValue_any _ _).mono ?_; rintro e w' ⟨rfl, rfl⟩))
    all_goals (go_ret; exact ⟨by simp [Actn.ok, kindOk, *] <;> rfl, (.of (by repeat (first | exact Ext.refl _ | refine Ext.up ?_ _ | refine Ext.alloc ?_ _ | refine Ext.drew ?_ | refine Ext.setRow ?_ (by first | (dsimp only; omega) | exact LeS.le | exact LeS.add _ | (simp; done) | (simp; omega)) _ | refine Ext.setCell ?_ (by first | (dsimp only; omega) | exact LeS.le | exact LeS.add _ | (simp; done) | (simp; omega)) _)))⟩)
  · subst hk
    go_enter Try.func61, Try.ntmps61
    go_wp2_with (first | (go_at_call 91; refine (isKey_any _ _).mono ?_; rintro e w' ⟨rfl, rfl⟩) | (go_at_call 98; refine (isValue_any _ _).mono ?_; rintro e w' ⟨rfl, rfl⟩))
    all_goals (go_ret; exact ⟨by simp [Actn.ok, kindOk, *] <;> rfl, (.of (by repeat (first | exact Ext.refl _ | refine Ext.up ?_ _ | refine Ext.alloc ?_ _ | refine Ext.drew ?_ | refine Ext.setRow ?_ (by first | (dsimp only; omega) | exact LeS.le | exact LeS.add _ | (simp; done) | (simp; omega)) _ | refine Ext.setCell ?_ (by first | (dsimp only; omega) | exact LeS.le | exact LeS.add _ | (simp; done) | (simp; omega)) _)))⟩)
  · have e1 : (kind == 1) = false := by simpa using k1
    have e2 : (kind == 2) = false := by simpa using k2
    have e3 : (kind == 3) = false := by simpa using k3
    have e4 : (kind == 4) = false := by simpa using k4
    have e5 : (kind == 5) = false := by simpa using k5
    have e6 : (kind == 6) = false := by simpa using k6
    have hf : kindOk kind dst amt = false := by simp [kindOk, *]
    go_enter Try.func61, Try.ntmps61
    go_wp2_with (first | (go_at_call 91; refine (isKey_any _ _).mono ?_; rintro e w' ⟨rfl, rfl⟩) | (go_at_call 98; refine (isValue_any _ _).mono ?_; rintro e w' ⟨rfl, rfl⟩))
    all_goals (go_ret; exact ⟨by simp [Actn.ok, hf], (.of (by repeat (first | exact Ext.refl _ | refine Ext.up ?_ _ | refine Ext.alloc ?_ _ | refine Ext.drew ?_ | refine Ext.setRow ?_ (by first | (dsimp only; omega) | exact LeS.le | exact LeS.add _ | (simp; done) | (simp; omega)) _ | refine Ext.setCell ?_ (by first | (dsimp only; omega) | exact LeS.le | exact LeS.add _ | (simp; done) | (simp; omega)) _)))⟩)
  all_goals
    go_enter Try.func61, Try.ntmps61
    go_wp2_with (first | (go_at_call 91; refine (isKey_any _ _).mono ?_; rintro e w' ⟨rfl, rfl⟩) | (go_at_call 98; refine (isValue_any _ _).mono ?_; rintro e w' ⟨rfl, rfl⟩))
    go_ret
    exact ⟨by simp [Actn.ok, *], (.of (by repeat (first | exact Ext.refl _ | refine Ext.up ?_ _ | refine Ext.alloc ?_ _ | refine Ext.drew ?_ | refine Ext.setRow ?_ (by first | (dsimp only; omega) | exact LeS.le | exact LeS.add _ | (simp; done) | (simp; omega)) _ | refine Ext.setCell ?_ (by first | (dsimp only; omega) | exact LeS.le | exact LeS.add _ | (simp; done) | (simp; omega)) _)))⟩
set_option maxHeartbeats 2000000 in
theorem sActionValid_any (x : Actn) (w : World) : Calls Try.prog 17 #[.agg #[.int .i64 x.kind, .int .i64 x.src, .int .i64 x.dst, .int .i64 x.amt]] w fun e w' => e = .returned (.bool x.ok) ∧ Up w w' := by
  obtain ⟨kind, src, dst, amt⟩ := x
  dsimp only
  rcases guards3 (inR src 0 31) (inR dst 0 31) (inR amt 0 1000000) with h1 | ⟨h1, h2⟩ | ⟨h1, h2, h3⟩ | ⟨h1, h2, h3⟩
  rotate_right
  rcases kinds kind with hk | hk | hk | hk | hk | hk | ⟨k1, k2, k3, k4, k5, k6⟩
  · subst hk
    go_enter Try.func17, Try.ntmps17
    go_wp2_with ((go_at_call 66; refine (l1In_any _ _ _ _).mono ?_; rintro e w' ⟨rfl, rfl⟩))
    all_goals (go_ret; exact ⟨by simp [Actn.ok, kindOk, *] <;> rfl, (.of (by repeat (first | exact Ext.refl _ | refine Ext.up ?_ _ | refine Ext.alloc ?_ _ | refine Ext.drew ?_ | refine Ext.setRow ?_ (by first | (dsimp only; omega) | exact LeS.le | exact LeS.add _ | (simp; done) | (simp; omega)) _ | refine Ext.setCell ?_ (by first | (dsimp only; omega) | exact LeS.le | exact LeS.add _ | (simp; done) | (simp; omega)) _)))⟩)
  · subst hk
    go_enter Try.func17, Try.ntmps17
    go_wp2_with ((go_at_call 66; refine (l1In_any _ _ _ _).mono ?_; rintro e w' ⟨rfl, rfl⟩))
    all_goals (go_ret; exact ⟨by simp [Actn.ok, kindOk, *] <;> rfl, (.of (by repeat (first | exact Ext.refl _ | refine Ext.up ?_ _ | refine Ext.alloc ?_ _ | refine Ext.drew ?_ | refine Ext.setRow ?_ (by first | (dsimp only; omega) | exact LeS.le | exact LeS.add _ | (simp; done) | (simp; omega)) _ | refine Ext.setCell ?_ (by first | (dsimp only; omega) | exact LeS.le | exact LeS.add _ | (simp; done) | (simp; omega)) _)))⟩)
  · subst hk
    go_enter Try.func17, Try.ntmps17
    go_wp2_with ((go_at_call 66; refine (l1In_any _ _ _ _).mono ?_; rintro e w' ⟨rfl, rfl⟩))
    all_goals (go_ret; exact ⟨by simp [Actn.ok, kindOk, *] <;> rfl, (.of (by repeat (first | exact Ext.refl _ | refine Ext.up ?_ _ | refine Ext.alloc ?_ _ | refine Ext.drew ?_ | refine Ext.setRow ?_ (by first | (dsimp only; omega) | exact LeS.le | exact LeS.add _ | (simp; done) | (simp; omega)) _ | refine Ext.setCell ?_ (by first | (dsimp only; omega) | exact LeS.le | exact LeS.add _ | (simp; done) | (simp; omega)) _)))⟩)
  · subst hk
    go_enter Try.func17, Try.ntmps17
    go_wp2_with ((go_at_call 66; refine (l1In_any _ _ _ _).mono ?_; rintro e w' ⟨rfl, rfl⟩))
    all_goals (go_ret; exact ⟨by simp [Actn.ok, kindOk, *] <;> rfl, (.of (by repeat (first | exact Ext.refl _ | refine Ext.up ?_ _ | refine Ext.alloc ?_ _ | refine Ext.drew ?_ | refine Ext.setRow ?_ (by first | (dsimp only; omega) | exact LeS.le | exact LeS.add _ | (simp; done) | (simp; omega)) _ | refine Ext.setCell ?_ (by first | (dsimp only; omega) | exact LeS.le | exact LeS.add _ | (simp; done) | (simp; omega)) _)))⟩)
  · subst hk
    go_enter Try.func17, Try.ntmps17
    go_wp2_with ((go_at_call 66; refine (l1In_any _ _ _ _).mono ?_; rintro e w' ⟨rfl, rfl⟩))
    all_goals (go_ret; exact ⟨by simp [Actn.ok, kindOk, *] <;> rfl, (.of (by repeat (first | exact Ext.refl _ | refine Ext.up ?_ _ | refine Ext.alloc ?_ _ | refine Ext.drew ?_ | refine Ext.setRow ?_ (by first | (dsimp only; omega) | exact LeS.le | exact LeS.add _ | (simp; done) | (simp; omega)) _ | refine Ext.setCell ?_ (by first | (dsimp only; omega) | exact LeS.le | exact LeS.add _ | (simp; done) | (simp; omega)) _)))⟩)
  · subst hk
    go_enter Try.func17, Try.ntmps17
    go_wp2_with ((go_at_call 66; refine (l1In_any _ _ _ _).mono ?_; rintro e w' ⟨rfl, rfl⟩))
    all_goals (go_ret; exact ⟨by simp [Actn.ok, kindOk, *] <;> rfl, (.of (by repeat (first | exact Ext.refl _ | refine Ext.up ?_ _ | refine Ext.alloc ?_ _ | refine Ext.drew ?_ | refine Ext.setRow ?_ (by first | (dsimp only; omega) | exact LeS.le | exact LeS.add _ | (simp; done) | (simp; omega)) _ | refine Ext.setCell ?_ (by first | (dsimp only; omega) | exact LeS.le | exact LeS.add _ | (simp; done) | (simp; omega)) _)))⟩)
  · have e1 : (kind == 1) = false := by simpa using k1
    have e2 : (kind == 2) = false := by simpa using k2
    have e3 : (kind == 3) = false := by simpa using k3
    have e4 : (kind == 4) = false := by simpa using k4
    have e5 : (kind == 5) = false := by simpa using k5
    have e6 : (kind == 6) = false := by simpa using k6
    have hf : kindOk kind dst amt = false := by simp [kindOk, *]
    go_enter Try.func17, Try.ntmps17
    go_wp2_with ((go_at_call 66; refine (l1In_any _ _ _ _).mono ?_; rintro e w' ⟨rfl, rfl⟩))
    all_goals (go_ret; exact ⟨by simp [Actn.ok, hf], (.of (by repeat (first | exact Ext.refl _ | refine Ext.up ?_ _ | refine Ext.alloc ?_ _ | refine Ext.drew ?_ | refine Ext.setRow ?_ (by first | (dsimp only; omega) | exact LeS.le | exact LeS.add _ | (simp; done) | (simp; omega)) _ | refine Ext.setCell ?_ (by first | (dsimp only; omega) | exact LeS.le | exact LeS.add _ | (simp; done) | (simp; omega)) _)))⟩)
  all_goals
    go_enter Try.func17, Try.ntmps17
    go_wp2_with ((go_at_call 66; refine (l1In_any _ _ _ _).mono ?_; rintro e w' ⟨rfl, rfl⟩))
    go_ret
    exact ⟨by simp [Actn.ok, *], (.of (by repeat (first | exact Ext.refl _ | refine Ext.up ?_ _ | refine Ext.alloc ?_ _ | refine Ext.drew ?_ | refine Ext.setRow ?_ (by first | (dsimp only; omega) | exact LeS.le | exact LeS.add _ | (simp; done) | (simp; omega)) _ | refine Ext.setCell ?_ (by first | (dsimp only; omega) | exact LeS.le | exact LeS.add _ | (simp; done) | (simp; omega)) _)))⟩
set_option maxHeartbeats 2000000 in
theorem reads_any (x : Actn) (w : World) : Calls Try.prog 130 #[.agg #[.int .i64 x.kind, .int .i64 x.src, .int .i64 x.dst, .int .i64 x.amt]] w fun e w' => ∃ v, e = .returned v ∧ Up w w' ∧ Own encI 3 1 w.heap.size w' v x.rk := by
  obtain ⟨kind, src, dst, amt⟩ := x
  dsimp only
  rcases kinds kind with hk | hk | hk | hk | hk | hk | ⟨k1, k2, k3, k4, k5, k6⟩
  rotate_right
  have e1 : (kind == 1) = false := by simpa using k1
  have e2 : (kind == 2) = false := by simpa using k2
  have e3 : (kind == 3) = false := by simpa using k3
  have e4 : (kind == 4) = false := by simpa using k4
  have e5 : (kind == 5) = false := by simpa using k5
  have e6 : (kind == 6) = false := by simpa using k6
  all_goals try subst hk
  all_goals rcases eq_cases src dst with ⟨hs, hs'⟩ | ⟨hs, hs'⟩
  all_goals
    have HS := Lib.hid hs; clear hs
    go_enter Try.func130, Try.ntmps130
    go_wp2_with fail
    go_ret
    refine ⟨_, rfl, (.of (by repeat (first | exact Ext.refl _ | refine Ext.up ?_ _ | refine Ext.alloc ?_ _ | refine Ext.drew ?_ | refine Ext.setRow ?_ (by first | (dsimp only; omega) | exact LeS.le | exact LeS.add _ | (simp; done) | (simp; omega)) _ | refine Ext.setCell ?_ (by first | (dsimp only; omega) | exact LeS.le | exact LeS.add _ | (simp; done) | (simp; omega)) _))), ?_⟩
    have hs := HS.out
    simp [Actn.rk, *]
    first | exact Own.nil _ _ _ _ _ | (refine Own.lit (by simp) (by simp) rfl rfl encI_length (by simp))
end Go.Proofs.Ytkboefmkfpnpjaa
namespace Go.Proofs.Ytkboefmkfpnpjaa
open Go Go.RowKit Go.Proofs

set_option maxHeartbeats 2000000 in
theorem writes_any (x : Actn) (w : World) : Calls Try.prog 131 #[.agg #[.int .i64 x.kind, .int .i64 x.src, .int .i64 x.dst, .int .i64 x.amt]] w fun e w' => ∃ v, e = .returned v ∧ Up w w' ∧ Own encI 3 1 w.heap.size w' v x.wk := by
  obtain ⟨kind, src, dst, amt⟩ := x
  dsimp only
  rcases kinds kind with hk | hk | hk | hk | hk | hk | ⟨k1, k2, k3, k4, k5, k6⟩
  rotate_right
  have e1 : (kind == 1) = false := by simpa using k1
  have e2 : (kind == 2) = false := by simpa using k2
  have e3 : (kind == 3) = false := by simpa using k3
  have e4 : (kind == 4) = false := by simpa using k4
  have e5 : (kind == 5) = false := by simpa using k5
  have e6 : (kind == 6) = false := by simpa using k6
  all_goals try subst hk
  all_goals rcases eq_cases src dst with ⟨hs, hs'⟩ | ⟨hs, hs'⟩
  all_goals
    try (have HS : Hid (src = dst) := Lib.hid hs; clear hs)
    go_enter Try.func131, Try.ntmps131
    go_wp2_with (fail)
    all_goals go_ret
    all_goals refine ⟨_, rfl, (.of (by repeat (first | exact Ext.refl _ | refine Ext.up ?_ _ | refine Ext.alloc ?_ _ | refine Ext.drew ?_ | refine Ext.setRow ?_ (by first | (dsimp only; omega) | exact LeS.le | exact LeS.add _ | (simp; done) | (simp; omega)) _ | refine Ext.setCell ?_ (by first | (dsimp only; omega) | exact LeS.le | exact LeS.add _ | (simp; done) | (simp; omega)) _))), ?_⟩
    all_goals try have hs := HS.out
    all_goals simp [Actn.wk, *]
    all_goals first | exact Own.nil _ _ _ _ _ | (refine Own.lit (by simp) (by first | exact LeS.le | (simp; done)) rfl ?_ encI_length (by simp); first | rfl | (simp [encI]; omega))
set_option maxHeartbeats 2000000 in
theorem sReads_any (x : Actn) (w : World) : Calls Try.prog 65 #[.agg #[.int .i64 x.kind, .int .i64 x.src, .int .i64 x.dst, .int .i64 x.amt]] w fun e w' => ∃ v, e = .returned v ∧ Up w w' ∧ Own encI 3 1 w.heap.size w' v (if x.ok = true then x.rk else []) := by
  rcases hv : x.ok with _ | _
  · rw [if_neg (by decide)]
    go_enter Try.func65, Try.ntmps65
    go_wp2_with ((go_at_call 17; refine (sActionValid_any ⟨_, _, _, _⟩ _).mono ?_; rintro e w' ⟨rfl, z, rfl⟩))
    go_ret
    refine ⟨_, rfl, (.of (by repeat (first | exact Ext.refl _ | refine Ext.up ?_ _ | refine Ext.alloc ?_ _ | refine Ext.drew ?_ | refine Ext.setRow ?_ (by first | (dsimp only; omega) | exact LeS.le | exact LeS.add _ | (simp; done) | (simp; omega)) _ | refine Ext.setCell ?_ (by first | (dsimp only; omega) | exact LeS.le | exact LeS.add _ | (simp; done) | (simp; omega)) _))), ?_⟩
    refine Own.lit (by simp) ?_ rfl rfl encI_length (by simp)
    exact LeS.le
  rw [if_pos rfl]
  obtain ⟨kind, src, dst, amt⟩ := x
  dsimp only
  rcases kinds kind with hk | hk | hk | hk | hk | hk | ⟨k1, k2, k3, k4, k5, k6⟩
  rotate_right
  have e1 : (kind == 1) = false := by simpa using k1
  have e2 : (kind == 2) = false := by simpa using k2
  have e3 : (kind == 3) = false := by simpa using k3
  have e4 : (kind == 4) = false := by simpa using k4
  have e5 : (kind == 5) = false := by simpa using k5
  have e6 : (kind == 6) = false := by simpa using k6
  all_goals try subst hk
  all_goals rcases eq_cases src dst with ⟨hs, hs'⟩ | ⟨hs, hs'⟩
  all_goals
    try (have HS : Hid (src = dst) := Lib.hid hs; clear hs)
    go_enter Try.func65, Try.ntmps65
    go_wp2_with ((go_at_call 17; refine (sActionValid_any ⟨_, _, _, _⟩ _).mono ?_; rintro e w' ⟨rfl, z, rfl⟩))
    all_goals go_ret
    all_goals refine ⟨_, rfl, (.of (by repeat (first | exact Ext.refl _ | refine Ext.up ?_ _ | refine Ext.alloc ?_ _ | refine Ext.drew ?_ | refine Ext.setRow ?_ (by first | (dsimp only; omega) | exact LeS.le | exact LeS.add _ | (simp; done) | (simp; omega)) _ | refine Ext.setCell ?_ (by first | (dsimp only; omega) | exact LeS.le | exact LeS.add _ | (simp; done) | (simp; omega)) _))), ?_⟩
    all_goals try have hs := HS.out
    all_goals simp [Actn.rk, *]
    all_goals first | exact Own.nil _ _ _ _ _ | (refine Own.lit (by simp) (by first | exact LeS.le | (simp; done)) rfl ?_ encI_length (by simp); first | rfl | (simp [encI]; omega))
set_option maxHeartbeats 2000000 in
theorem sWrites_any (x : Actn) (w : World) : Calls Try.prog 64 #[.agg #[.int .i64 x.kind, .int .i64 x.src, .int .i64 x.dst, .int .i64 x.amt]] w fun e w' => ∃ v, e = .returned v ∧ Up w w' ∧ Own encI 3 1 w.heap.size w' v (if x.ok = true then x.wk else []) := by
  rcases hv : x.ok with _ | _
  · rw [if_neg (by decide)]
    go_enter Try.func64, Try.ntmps64
    go_wp2_with ((go_at_call 17; refine (sActionValid_any ⟨_, _, _, _⟩ _).mono ?_; rintro e w' ⟨rfl, z, rfl⟩))
    go_ret
    refine ⟨_, rfl, (.of (by repeat (first | exact Ext.refl _ | refine Ext.up ?_ _ | refine Ext.alloc ?_ _ | refine Ext.drew ?_ | refine Ext.setRow ?_ (by first | (dsimp only; omega) | exact LeS.le | exact LeS.add _ | (simp; done) | (simp; omega)) _ | refine Ext.setCell ?_ (by first | (dsimp only; omega) | exact LeS.le | exact LeS.add _ | (simp; done) | (simp; omega)) _))), ?_⟩
    refine Own.lit (by simp) ?_ rfl rfl encI_length (by simp)
    exact LeS.le
  rw [if_pos rfl]
  obtain ⟨kind, src, dst, amt⟩ := x
  dsimp only
  rcases kinds kind with hk | hk | hk | hk | hk | hk | ⟨k1, k2, k3, k4, k5, k6⟩
  rotate_right
  have e1 : (kind == 1) = false := by simpa using k1
  have e2 : (kind == 2) = false := by simpa using k2
  have e3 : (kind == 3) = false := by simpa using k3
  have e4 : (kind == 4) = false := by simpa using k4
  have e5 : (kind == 5) = false := by simpa using k5
  have e6 : (kind == 6) = false := by simpa using k6
  all_goals try subst hk
  all_goals rcases eq_cases src dst with ⟨hs, hs'⟩ | ⟨hs, hs'⟩
  all_goals
    try (have HS : Hid (src = dst) := Lib.hid hs; clear hs)
    go_enter Try.func64, Try.ntmps64
    go_wp2_with ((go_at_call 17; refine (sActionValid_any ⟨_, _, _, _⟩ _).mono ?_; rintro e w' ⟨rfl, z, rfl⟩))
    all_goals go_ret
    all_goals refine ⟨_, rfl, (.of (by repeat (first | exact Ext.refl _ | refine Ext.up ?_ _ | refine Ext.alloc ?_ _ | refine Ext.drew ?_ | refine Ext.setRow ?_ (by first | (dsimp only; omega) | exact LeS.le | exact LeS.add _ | (simp; done) | (simp; omega)) _ | refine Ext.setCell ?_ (by first | (dsimp only; omega) | exact LeS.le | exact LeS.add _ | (simp; done) | (simp; omega)) _))), ?_⟩
    all_goals try have hs := HS.out
    all_goals simp [Actn.wk, *]
    all_goals first | exact Own.nil _ _ _ _ _ | (refine Own.lit (by simp) (by first | exact LeS.le | (simp; done)) rfl ?_ encI_length (by simp); first | rfl | (simp [encI]; omega))
end Go.Proofs.Ytkboefmkfpnpjaa
namespace Go.Proofs.Ytkboefmkfpnpjaa
open Go Go.RowKit Go.Proofs

theorem mask_any (l : List Int) (v : Value) (w : World) (h : SL (RF encI) 1 w v l) (hr : ∀ n ∈ l, 0 ≤ n ∧ n ≤ 31) :
    Calls Try.prog 129 #[v] w fun e w' => e = .returned (.int .i64 (maskN l)) ∧ w = w' := by
  obtain ⟨a, cap, rfl, hlen, hc⟩ := h.open
  clear h
  go_enter Try.func129, Try.ntmps129
  go_wp2_with fail
  go_loop [3, 5, 8] (fun s3 _ s8 => ∃ (k : Nat), s8 = .int .i64 k ∧ k ≤ l.length ∧ s3 = .int .i64 (maskN (l.take k))) (fun _ _ s8 => l.length - (intOf s8).toNat)
  case atStart => exact ⟨0, rfl, Nat.zero_le _, rfl⟩
  case round =>
    obtain ⟨k, rfl, hk, rfl⟩ := hrel
    by_cases hlt : k < l.length
    · obtain ⟨x, hxk⟩ := getElem?_some_of_lt hlt
      obtain ⟨b, off, rfl, hb, hcc⟩ := hc k x hxk
      have c0 : w.cell? ⟨b, off + k, none⟩ = some (.int .i64 x) := by have := hcc 0 _ rfl; simpa using this
      obtain ⟨hx0, hx1⟩ := hr x (List.mem_of_getElem? hxk)
      have hm := maskN_lt (l.take k) (fun n hn => hr n (List.mem_of_mem_take hn))
      have ht : l.take (k + 1) = l.take k ++ [x] := by rw [List.take_add_one, hxk]; rfl
      have hp0 : ∀ m : Nat, m ≤ 2147483648 → wrap64 (m : Int) = m := fun m hm => IntWalk.wrap64_in _ ⟨by omega, by omega⟩
      have hp : wrap64 (2 ^ x.toNat) = ((2 ^ x.toNat : Nat) : Int) := by
        rw [← hp0 _ (Nat.pow_le_pow_right (n := 2) (by decide) (show x.toNat ≤ 31 by omega))]; simp
      clear hp0
      have hq : 2 ^ x.toNat < 9223372036854775808 := Nat.lt_of_le_of_lt (Nat.pow_le_pow_right (n := 2) (by decide) (show x.toNat ≤ 31 by omega)) (by decide)
      have hor := i64_or_nat (maskN (l.take k)) (2 ^ x.toNat) (by omega) hq
      rw [← hp] at hor
      have e : bits BinOp.or IntKind.i64 (maskN (l.take k)) (wrap64 (2 ^ x.toNat)) = (maskN (l.take (k + 1)) : Int) := by rw [hor, ht, maskN_snoc]
      have E := Lib.hid e
      clear hc hcc hxk hr e hor hp ht hq hm
      go_wp2_with fail
      refine ⟨⟨k + 1, by go_num, by omega, by rw [E.out]⟩, by simp [intOf]; omega⟩
    · go_wp2_with fail
      go_ret
      obtain rfl : k = l.length := by omega
      refine ⟨?_, rfl⟩
      show Ending.returned (.int .i64 (maskN (l.take l.length))) = _
      rw [List.take_length]
set_option maxHeartbeats 2000000 in
theorem conflicts_any (x y : Actn) (w : World) (hx : x.ok = true) (hy : y.ok = true) : Calls Try.prog 62 #[.agg #[.int .i64 x.kind, .int .i64 x.src, .int .i64 x.dst, .int .i64 x.amt], .agg #[.int .i64 y.kind, .int .i64 y.src, .int .i64 y.dst, .int .i64 y.amt]] w fun e w' => e = .returned (.bool (conf x y)) ∧ Up w w' := by
  have key : ((decide ((maskN x.wk &&& (maskN y.rk ||| maskN y.wk) ||| maskN y.wk &&& maskN x.rk : Nat) = 0))) = !conf x y := by
    have nx := fun n hn => (Actn.wk_in hx n hn).1
    have rx := fun n hn => (Actn.rk_in hx n hn).1
    have ny := fun n hn => (Actn.wk_in hy n hn).1
    have ry := fun n hn => (Actn.rk_in hy n hn).1
    have h1 := maskN_and nx ry
    have h2 := maskN_and nx ny
    have h3 := maskN_and ny rx
    have h4 : common y.wk x.rk = common x.rk y.wk := by
      rw [Bool.eq_iff_iff]; simp only [common, List.any_eq_true, List.contains_iff_mem]
      exact ⟨fun ⟨n, a, b⟩ => ⟨n, b, a⟩, fun ⟨n, a, b⟩ => ⟨n, b, a⟩⟩
    rw [Nat.and_or_distrib_left]
    have z1 : (maskN x.wk &&& maskN y.rk = 0) ↔ common x.wk y.rk = false := by rw [← Bool.not_eq_true, ← h1]; simp
    have z2 : (maskN x.wk &&& maskN y.wk = 0) ↔ common x.wk y.wk = false := by rw [← Bool.not_eq_true, ← h2]; simp
    have z3 : (maskN y.wk &&& maskN x.rk = 0) ↔ common y.wk x.rk = false := by rw [← Bool.not_eq_true, ← h3]; simp
    simp only [Nat.or_eq_zero_iff, z1, z2, z3]
    rw [conf, ← h4]
    cases common x.wk y.wk <;> cases common x.wk y.rk <;> cases common y.wk x.rk <;> simp
  have b1 := maskN_lt _ (Actn.rk_in hx)
  have b2 := maskN_lt _ (Actn.wk_in hx)
  have b3 := maskN_lt _ (Actn.rk_in hy)
  have b4 := maskN_lt _ (Actn.wk_in hy)
  have m1 : bits BinOp.or IntKind.i64 (maskN y.rk) (maskN y.wk) = ((maskN y.rk ||| maskN y.wk : Nat) : Int) := i64_or_nat _ _ (by omega) (by omega)
  have c1 : maskN y.rk ||| maskN y.wk < 2 ^ 32 := Nat.or_lt_two_pow (by omega) (by omega)
  have m2 : bits BinOp.and IntKind.i64 (maskN x.wk) ((maskN y.rk ||| maskN y.wk : Nat) : Int) = ((maskN x.wk &&& (maskN y.rk ||| maskN y.wk) : Nat) : Int) := i64_and_nat _ _ (by omega) (by omega)
  have c2 : maskN x.wk &&& (maskN y.rk ||| maskN y.wk) < 2 ^ 32 := Nat.and_lt_two_pow _ c1
  have m3 : bits BinOp.and IntKind.i64 (maskN y.wk) (maskN x.rk) = ((maskN y.wk &&& maskN x.rk : Nat) : Int) := i64_and_nat _ _ (by omega) (by omega)
  have c3 : maskN y.wk &&& maskN x.rk < 2 ^ 32 := Nat.and_lt_two_pow _ (by omega)
  have m4 : bits BinOp.or IntKind.i64 ((maskN x.wk &&& (maskN y.rk ||| maskN y.wk) : Nat) : Int) ((maskN y.wk &&& maskN x.rk : Nat) : Int) = ((maskN x.wk &&& (maskN y.rk ||| maskN y.wk) ||| maskN y.wk &&& maskN x.rk : Nat) : Int) := i64_or_nat _ _ (by omega) (by omega)
  have hfin : (bits BinOp.or IntKind.i64 (bits BinOp.and IntKind.i64 (maskN x.wk) (bits BinOp.or IntKind.i64 (maskN y.rk) (maskN y.wk))) (bits BinOp.and IntKind.i64 (maskN y.wk) (maskN x.rk)) != 0) = conf x y := by
    rw [m1, m2, m3, m4]
    have : conf x y = !(decide ((maskN x.wk &&& (maskN y.rk ||| maskN y.wk) ||| maskN y.wk &&& maskN x.rk : Nat) = 0)) := by rw [key, Bool.not_not]
    rw [this]
    simp only [bne, Bool.not_eq_eq_eq_not, Bool.not_not]
    congr 1
    rw [Bool.eq_iff_iff]
    simp
  have Hfin := Lib.hid hfin
  have rx := Actn.rk_in hx; have wx := Actn.wk_in hx; have ry := Actn.rk_in hy; have wy := Actn.wk_in hy
  have Rx := Lib.hid rx; have Wx := Lib.hid wx; have Ry := Lib.hid ry; have Wy := Lib.hid wy
  clear key b1 b2 b3 b4 m1 c1 m2 c2 m3 c3 m4 hfin rx wx ry wy
  go_enter Try.func62, Try.ntmps62
  go_wp2_with fail
  (refine wp_named ?_; intro W0 hW0; have hI := LtS.via hW0; go_region_held3 (fun w' => (∀ n i, ∀ [LtS n W0], w'.cell? ⟨n, i, none⟩ = W0.cell? ⟨n, i, none⟩) ∧ Ext W0 w') (((try subst hW0); refine S_of_ext ?_; (repeat (first | exact Ext.refl _ | refine Ext.up ?_ _ | refine Ext.alloc ?_ _ | refine Ext.drew ?_ | refine Ext.setRow ?_ (by first | (dsimp only; omega) | exact LeS.le | exact LeS.add _ | (simp; done) | (simp; omega)) _ | refine Ext.setCell ?_ (by first | (dsimp only; omega) | exact LeS.le | exact LeS.add _ | (simp; done) | (simp; omega)) _)); done)) (first | (go_at_call 130; refine (reads_any _ _).mono ?_; rintro e w' ⟨v, rfl, ⟨z, rfl⟩, hown⟩) | (go_at_call 131; refine (writes_any _ _).mono ?_; rintro e w' ⟨v, rfl, ⟨z, rfl⟩, hown⟩) | (go_at_call 129; refine (mask_any _ _ _ (Own.sl encI_length (by assumption)) (by first | exact Rx.out | exact Wx.out | exact Ry.out | exact Wy.out)).mono ?_; rintro e w' ⟨rfl, rfl⟩)))
  go_wp2_with fail
  go_ret
  refine ⟨?_, .of (by subst hW0; repeat (first | exact Ext.refl _ | refine Ext.up ?_ _ | refine Ext.alloc ?_ _ | refine Ext.drew ?_ | refine Ext.setRow ?_ (by first | (dsimp only; omega) | exact LeS.le | exact LeS.add _ | (simp; done) | (simp; omega)) _ | refine Ext.setCell ?_ (by first | (dsimp only; omega) | exact LeS.le | exact LeS.add _ | (simp; done) | (simp; omega)) _))⟩
  exact congrArg (fun b => Ending.returned (.bool b)) Hfin.out
end Go.Proofs.Ytkboefmkfpnpjaa
namespace Go.Proofs.Ytkboefmkfpnpjaa
open Go Go.RowKit Go.Proofs

theorem all_next {α : Type} {p : α → Bool} {l : List α} {k : Nat} {x : α} (h : l[k]? = some x) (h0 : (l.take k).all p = true) (h1 : p x = true) : (l.take (k + 1)).all p = true := by
  rw [List.take_add_one, h, List.all_append, h0]; simp [h1]
theorem all_stop {α : Type} {p : α → Bool} {l : List α} {k : Nat} {x : α} (h : l[k]? = some x) (h1 : p x = false) : l.all p = false := by
  rw [← Bool.not_eq_true, List.all_eq_true]; intro hh; rw [hh x (List.mem_of_getElem? h)] at h1; cases h1
def actsOk (l : List Actn) : Bool := decide ((l.length : Int) ≤ 10) && l.all Actn.ok

set_option maxHeartbeats 1000000 in
theorem sActionsValid_any (l : List Actn) (v : Value) (w : World) (h : SL (RF Actn.enc) 4 w v l) :
    Calls Try.prog 36 #[v] w fun e w' => e = .returned (.bool (actsOk l)) ∧ Up w w' := by
  obtain ⟨p, cap, rfl, hlen, hc⟩ := h.open
  clear h
  go_enter Try.func36, Try.ntmps36
  go_wp2_with fail
  go_loopw [3] (fun s3 wr => ∃ (k : Nat), s3 = .int .i64 k ∧ k ≤ l.length ∧ (l.take k).all Actn.ok = true ∧ Up w wr) (fun s3 _ => l.length - (intOf s3).toNat)
  case atStart => exact ⟨0, rfl, Nat.zero_le _, rfl, (.of (by repeat (first | exact Ext.refl _ | refine Ext.up ?_ _ | refine Ext.alloc ?_ _ | refine Ext.drew ?_ | refine Ext.setRow ?_ (by first | (dsimp only; omega) | exact LeS.le | exact LeS.add _ | (simp; done) | (simp; omega)) _ | refine Ext.setCell ?_ (by first | (dsimp only; omega) | exact LeS.le | exact LeS.add _ | (simp; done) | (simp; omega)) _)))⟩
  case round =>
    obtain ⟨k, rfl, hk, hall, ⟨z, rfl⟩⟩ := hrel
    by_cases hlt : k < l.length
    · obtain ⟨x, hxk⟩ := getElem?_some_of_lt hlt
      obtain ⟨b, off, rfl, hb, hcc⟩ := hc k x hxk
      have c0 : w.cell? ⟨b, off + k * 4, none⟩ = some (.int .i64 x.kind) := hcc 0 _ rfl
      have c1 : w.cell? ⟨b, off + k * 4 + 1, none⟩ = some (.int .i64 x.src) := hcc 1 _ rfl
      have c2 : w.cell? ⟨b, off + k * 4 + 2, none⟩ = some (.int .i64 x.dst) := hcc 2 _ rfl
      have c3 : w.cell? ⟨b, off + k * 4 + 3, none⟩ = some (.int .i64 x.amt) := hcc 3 _ rfl
      have k0 : (0 : Int) ≤ (k : Int) := by omega
      have Hx := Lib.hid hxk; have Hall := Lib.hid hall
      clear hc hcc hxk hall
      rcases hq : x.ok with _ | _
      · have kq := fun w => sActionValid_any x w
        rw [hq] at kq
        go_wp2_with (go_at_call 17; refine (kq _).mono ?_; rintro e w' ⟨rfl, z1, rfl⟩)
        go_ret
        refine ⟨?_, (.of (by repeat (first | exact Ext.refl _ | refine Ext.up ?_ _ | refine Ext.alloc ?_ _ | refine Ext.drew ?_ | refine Ext.setRow ?_ (by first | (dsimp only; omega) | exact LeS.le | exact LeS.add _ | (simp; done) | (simp; omega)) _ | refine Ext.setCell ?_ (by first | (dsimp only; omega) | exact LeS.le | exact LeS.add _ | (simp; done) | (simp; omega)) _)))⟩
        rw [actsOk, all_stop Hx.out hq, Bool.and_false]; rfl
      · have kq := fun w => sActionValid_any x w
        rw [hq] at kq
        go_wp2_with (go_at_call 17; refine (kq _).mono ?_; rintro e w' ⟨rfl, z1, rfl⟩)
        go_roundw
        case rel => exact ⟨k + 1, by go_num, by omega, all_next Hx.out Hall.out hq, (.of (by repeat (first | exact Ext.refl _ | refine Ext.up ?_ _ | refine Ext.alloc ?_ _ | refine Ext.drew ?_ | refine Ext.setRow ?_ (by first | (dsimp only; omega) | exact LeS.le | exact LeS.add _ | (simp; done) | (simp; omega)) _ | refine Ext.setCell ?_ (by first | (dsimp only; omega) | exact LeS.le | exact LeS.add _ | (simp; done) | (simp; omega)) _)))⟩
        case measure => simp [intOf]; omega
    · go_wp2_with fail
      go_ret
      refine ⟨?_, (.of (by repeat (first | exact Ext.refl _ | refine Ext.up ?_ _ | refine Ext.alloc ?_ _ | refine Ext.drew ?_ | refine Ext.setRow ?_ (by first | (dsimp only; omega) | exact LeS.le | exact LeS.add _ | (simp; done) | (simp; omega)) _ | refine Ext.setCell ?_ (by first | (dsimp only; omega) | exact LeS.le | exact LeS.add _ | (simp; done) | (simp; omega)) _)))⟩
      have : l.take k = l := List.take_of_length_le (by omega)
      rw [this] at hall
      rw [actsOk, hall, Bool.and_true]; rfl
theorem iActionsValid1_any (x : Actn) (w : World) : Calls Try.prog 135 #[.agg #[.int .i64 x.kind, .int .i64 x.src, .int .i64 x.dst, .int .i64 x.amt]] w fun e w' => e = .returned (.bool (!x.ok)) ∧ Up w w' := by
  go_enter Try.func135, Try.ntmps135
  go_wp2_with (go_at_call 61; refine (iActionValid_any x _).mono ?_; rintro e w' ⟨rfl, z, rfl⟩)
  go_ret
  exact ⟨rfl, (.of (by repeat (first | exact Ext.refl _ | refine Ext.up ?_ _ | refine Ext.alloc ?_ _ | refine Ext.drew ?_ | refine Ext.setRow ?_ (by first | (dsimp only; omega) | exact LeS.le | exact LeS.add _ | (simp; done) | (simp; omega)) _ | refine Ext.setCell ?_ (by first | (dsimp only; omega) | exact LeS.le | exact LeS.add _ | (simp; done) | (simp; omega)) _)))⟩
set_option maxHeartbeats 1000000 in
theorem iIndexA_any (l : List Actn) (v : Value) (w : World) (h : SL (RF Actn.enc) 4 w v l) :
    Calls Try.prog 171 #[v, .func (.func 135) #[] #[]] w fun e w' => ∃ n : Int, e = .returned (.int .i64 n) ∧ decide (0 ≤ n) = !l.all Actn.ok ∧ Up w w' := by
  obtain ⟨p, cap, rfl, hlen, hc⟩ := h.open
  clear h
  go_enter Try.func171, Try.ntmps171
  go_wp2_with fail
  go_loopw [5, 8] (fun _ s8 wr => ∃ (k : Nat), s8 = .int .i64 k ∧ k ≤ l.length ∧ (l.take k).all Actn.ok = true ∧ Up w wr) (fun _ s8 _ => l.length - (intOf s8).toNat)
  case atStart => exact ⟨0, rfl, Nat.zero_le _, rfl, (.of (by repeat (first | exact Ext.refl _ | refine Ext.up ?_ _ | refine Ext.alloc ?_ _ | refine Ext.drew ?_ | refine Ext.setRow ?_ (by first | (dsimp only; omega) | exact LeS.le | exact LeS.add _ | (simp; done) | (simp; omega)) _ | refine Ext.setCell ?_ (by first | (dsimp only; omega) | exact LeS.le | exact LeS.add _ | (simp; done) | (simp; omega)) _)))⟩
  case round =>
    obtain ⟨k, rfl, hk, hall, ⟨z, rfl⟩⟩ := hrel
    by_cases hlt : k < l.length
    · obtain ⟨x, hxk⟩ := getElem?_some_of_lt hlt
      obtain ⟨b, off, rfl, hb, hcc⟩ := hc k x hxk
      have c0 : w.cell? ⟨b, off + k * 4, none⟩ = some (.int .i64 x.kind) := hcc 0 _ rfl
      have c1 : w.cell? ⟨b, off + k * 4 + 1, none⟩ = some (.int .i64 x.src) := hcc 1 _ rfl
      have c2 : w.cell? ⟨b, off + k * 4 + 2, none⟩ = some (.int .i64 x.dst) := hcc 2 _ rfl
      have c3 : w.cell? ⟨b, off + k * 4 + 3, none⟩ = some (.int .i64 x.amt) := hcc 3 _ rfl
      have k0 : (0 : Int) ≤ (k : Int) := by omega
      have Hx := Lib.hid hxk; have Hall := Lib.hid hall
      clear hc hcc hxk hall
      have kq := fun w => iActionsValid1_any x w
      rcases hq : x.ok with _ | _
      · rw [hq] at kq
        go_wp2_with (go_at_call 135; refine (kq _).mono ?_; rintro e w' ⟨rfl, z1, rfl⟩)
        go_ret
        refine ⟨_, rfl, ?_, (.of (by repeat (first | exact Ext.refl _ | refine Ext.up ?_ _ | refine Ext.alloc ?_ _ | refine Ext.drew ?_ | refine Ext.setRow ?_ (by first | (dsimp only; omega) | exact LeS.le | exact LeS.add _ | (simp; done) | (simp; omega)) _ | refine Ext.setCell ?_ (by first | (dsimp only; omega) | exact LeS.le | exact LeS.add _ | (simp; done) | (simp; omega)) _)))⟩
        rw [all_stop Hx.out hq]; simp
      · rw [hq] at kq
        go_wp2_with (go_at_call 135; refine (kq _).mono ?_; rintro e w' ⟨rfl, z1, rfl⟩)
        go_roundw
        case rel => exact ⟨k + 1, by go_num, by omega, all_next Hx.out Hall.out hq, (.of (by repeat (first | exact Ext.refl _ | refine Ext.up ?_ _ | refine Ext.alloc ?_ _ | refine Ext.drew ?_ | refine Ext.setRow ?_ (by first | (dsimp only; omega) | exact LeS.le | exact LeS.add _ | (simp; done) | (simp; omega)) _ | refine Ext.setCell ?_ (by first | (dsimp only; omega) | exact LeS.le | exact LeS.add _ | (simp; done) | (simp; omega)) _)))⟩
        case measure => simp [intOf]; omega
    · go_wp2_with fail
      go_ret
      refine ⟨_, rfl, ?_, (.of (by repeat (first | exact Ext.refl _ | refine Ext.up ?_ _ | refine Ext.alloc ?_ _ | refine Ext.drew ?_ | refine Ext.setRow ?_ (by first | (dsimp only; omega) | exact LeS.le | exact LeS.add _ | (simp; done) | (simp; omega)) _ | refine Ext.setCell ?_ (by first | (dsimp only; omega) | exact LeS.le | exact LeS.add _ | (simp; done) | (simp; omega)) _)))⟩
      have : l.take k = l := List.take_of_length_le (by omega)
      rw [this] at hall
      rw [hall]; rfl
theorem iContainsA_any (l : List Actn) (v : Value) (w : World) (h : SL (RF Actn.enc) 4 w v l) :
    Calls Try.prog 134 #[v, .func (.func 135) #[] #[]] w fun e w' => e = .returned (.bool (!l.all Actn.ok)) ∧ Up w w' := by
  have hs := h
  obtain ⟨p, cap, rfl, hlen, hc⟩ := h.open
  clear hc h
  go_enter Try.func134, Try.ntmps134
  go_wp2_with (go_at_call 171; refine (iIndexA_any l _ _ hs).mono ?_; rintro e w' ⟨n, rfl, hn, z, rfl⟩)
  go_ret
  exact ⟨rfl, (.of (by repeat (first | exact Ext.refl _ | refine Ext.up ?_ _ | refine Ext.alloc ?_ _ | refine Ext.drew ?_ | refine Ext.setRow ?_ (by first | (dsimp only; omega) | exact LeS.le | exact LeS.add _ | (simp; done) | (simp; omega)) _ | refine Ext.setCell ?_ (by first | (dsimp only; omega) | exact LeS.le | exact LeS.add _ | (simp; done) | (simp; omega)) _)))⟩
theorem iActionsValid_any (l : List Actn) (v : Value) (w : World) (h : SL (RF Actn.enc) 4 w v l) :
    Calls Try.prog 69 #[v] w fun e w' => e = .returned (.bool (actsOk l)) ∧ Up w w' := by
  obtain ⟨p, cap, rfl, hlen, hc⟩ := h.open
  clear hc
  unfold actsOk
  rcases hq : decide ((l.length : Int) ≤ 10) with _ | _
  · rw [Bool.false_and]
    go_enter Try.func69, Try.ntmps69
    go_wp2_with fail
    go_ret
    exact ⟨rfl, (.of (by repeat (first | exact Ext.refl _ | refine Ext.up ?_ _ | refine Ext.alloc ?_ _ | refine Ext.drew ?_ | refine Ext.setRow ?_ (by first | (dsimp only; omega) | exact LeS.le | exact LeS.add _ | (simp; done) | (simp; omega)) _ | refine Ext.setCell ?_ (by first | (dsimp only; omega) | exact LeS.le | exact LeS.add _ | (simp; done) | (simp; omega)) _)))⟩
  · rw [Bool.true_and]
    go_enter Try.func69, Try.ntmps69
    go_wp2_with (go_at_call 134; refine (iContainsA_any l _ _ h).mono ?_; rintro e w' ⟨rfl, z, rfl⟩)
    go_ret
    refine ⟨?_, (.of (by repeat (first | exact Ext.refl _ | refine Ext.up ?_ _ | refine Ext.alloc ?_ _ | refine Ext.drew ?_ | refine Ext.setRow ?_ (by first | (dsimp only; omega) | exact LeS.le | exact LeS.add _ | (simp; done) | (simp; omega)) _ | refine Ext.setCell ?_ (by first | (dsimp only; omega) | exact LeS.le | exact LeS.add _ | (simp; done) | (simp; omega)) _)))⟩
    first | rfl | exact congrArg (fun b => Ending.returned (.bool b)) (Bool.not_not _)
end Go.Proofs.Ytkboefmkfpnpjaa
