/- Walks: blocks that are found, ways to blocks. Plain laws: trees of one block; the first blocks of a tree; ways in a tree. The law FnConflictSelf's walk. -/
import Derived.Test.YtknohbdhbjppjaaGBRTop22
import Derived.Test.YtknohbdhbjppjaaGBRTop05
import Derived.Deep.RegionHeld3
import Derived.Test.YtknohbdhbjppjaaGBRTop21
import Derived.Test.YtknohbdhbjppjaaGBRTop12
import Derived.Test.YtknohbdhbjppjaaGBRTop08
import Derived.Test.YtknohbdhbjppjaaGBRTop09
import Derived.Test.YtknohbdhbjppjaaGBRTop01
set_option linter.unusedSimpArgs false
set_option linter.unusedVariables false
namespace Go.Proofs.Ytknohbdhbjppjaa
open Go Go.RowKit Go.Proofs

theorem Tree.ok_parts {t : Tree} (h : t.ok = true) : t.head = true ∧ t.first = true ∧ upTo (newAt t.bs) t.bs.length = true ∧ upTo (linkAt t.bs t.pr) t.bs.length = true := by
  simpa [Tree.ok] using h
theorem Tree.head_parts {t : Tree} (h : t.head = true) : entsOk 1 t.base = true ∧ (1 ≤ t.bs.length ∧ t.bs.length ≤ 14) ∧ t.pr.length = t.bs.length ∧ t.pr.getD 0 0 = -1 := by
  simp only [Tree.head, Bool.and_eq_true, inR_iff, decide_eq_true_eq] at h
  exact ⟨h.1, by omega, h.2.2.1, h.2.2.2⟩
def findR (t : Tree) (sum : Int) : Int := if t.ok = true then findB t.bs sum else -1
theorem findB_neg {t : Tree} {sum : Int} (h : t.ok = true) (hs : sum < 0) : findB t.bs sum = -1 := by
  refine findB_none (upTo_iff.2 fun i hi => ?_)
  obtain ⟨x, hx⟩ := getElem?_some_of_lt hi
  have hn := newAt_ok hx (upTo_iff.1 (Tree.ok_parts h).2.2.1 i hi)
  have := (bsum_ge hn).1
  have hne : bsumOf x ≠ sum := by unfold bsumOf; omega
  simp only [hx]; simpa using hne
/-- Every block's number in Before is less. -/
theorem Tree.pr_lt {t : Tree} (h : t.ok = true) {i : Nat} {n : Int} (hn : t.pr[i]? = some n) : -1 ≤ n ∧ n < (i : Int) := by
  obtain ⟨h1, _, _, h4⟩ := Tree.ok_parts h
  obtain ⟨_, _, hl, h0⟩ := Tree.head_parts h1
  have hi : i < t.bs.length := by have := (List.getElem?_eq_some_iff.1 hn).1; omega
  by_cases hz : i = 0
  · subst hz
    rw [getD_of hn] at h0
    omega
  · have hlk := upTo_iff.1 h4 i hi
    obtain ⟨x, hx⟩ := getElem?_some_of_lt hi
    unfold linkAt at hlk
    simp only [hx, hn, hz, decide_false, Bool.false_or, Bool.and_eq_true, inR_iff] at hlk
    omega
/-- The way up from a block. -/
def climb (pr : List Int) : Nat → Int → List Int
  | 0, _ => []
  | f + 1, n => if n < 0 then [] else n :: climb pr f (pr.getD n.toNat (-1))
theorem climb_neg (pr : List Int) (f : Nat) {n : Int} (h : n < 0) : climb pr f n = [] := by cases f <;> simp [climb, h]
theorem climb_step {pr : List Int} {f : Nat} {n m : Int} (h : 0 ≤ n) (hm : pr[n.toNat]? = some m) : climb pr (f + 1) n = n :: climb pr f m := by
  have h2 : ¬ n < 0 := by omega
  simp [climb, h2, List.getD, hm]
theorem climb_le (pr : List Int) : ∀ (f : Nat) (n : Int), (climb pr f n).length ≤ f
  | 0, _ => by simp [climb]
  | f + 1, n => by
    unfold climb
    split
    · simp
    · have := climb_le pr f (pr.getD n.toNat (-1)); rw [List.length_cons]; omega
theorem own_empty (e lo : Nat) (w : World) (g : Nat) (hg : g = w.heap.size) (hlo : lo ≤ w.heap.size) : Own encI e 1 lo (w.alloc (.cells #[] e)) (.slice (some ⟨g, 0, none⟩) 0 0) [] := Own.lit hg hlo rfl rfl encI_length (Nat.zero_le _)
def pathB (t : Tree) (n : Int) : List Int := (climb t.pr t.bs.length n).reverse
def hasN (t : Tree) (n : Int) : Bool := inR n 0 ((t.bs.length : Int) - 1)
def pathR (t : Tree) (n : Int) : List Int := if (t.ok && hasN t n) = true then pathB t n else []
theorem pathR_yes {t : Tree} {n : Int} (h : t.ok = true) (h' : hasN t n = true) : pathR t n = pathB t n := by unfold pathR; rw [h, h']; rfl
theorem pathR_no1 {t : Tree} {n : Int} (h : t.ok = false) : pathR t n = [] := by unfold pathR; rw [h]; rfl
theorem pathR_no2 {t : Tree} {n : Int} (h : hasN t n = false) : pathR t n = [] := by unfold pathR; rw [h, Bool.and_false]; rfl
/-- append of a slice of the call's own. -/
theorem wpList_pushX {P : Program} {t e sz bytes : Nat} (F : AppFacts P t e sz bytes) {ops : Array Oper} {rest : List Oper} {o : Oper} {a : Act} {Q : Exit → Act → World → Prop} (hgd : o.guard = none) (s x : Operand)
    (ho : o.op = .call { callee := .builtin .append, args := #[s, x], argTypes := #[t, t] }) {α : Type} (enc : α → List Value) (he : ∀ x, (enc x).length = sz) (Wb : World) {lo lo2 : Nat} {w : World} (ys : List α) (l : List α) {v : Value} (hs : a.eval s = v)
    (hown : Own enc e sz lo w v l) (hE : Ext Wb w) (hlo : Wb.heap.size ≤ lo) (hlo' : lo ≤ w.heap.size) {g m c : Nat} (hx : a.eval x = .slice (some ⟨g, 0, none⟩) m c) (hm : m = ys.length) (hys : Own enc e sz lo2 w (.slice (some ⟨g, 0, none⟩) m c) ys)
    (h1 : ∀ u ∈ ys.flatMap enc, u.oneCell' = true) (hb : (l.length + ys.length) * bytes ≤ 140737488355328) (hb' : l.length + ys.length ≤ 9223372036854775807)
    (h : ∀ v' (z1 : Extd Wb), Own enc e sz lo z1.val v' (l ++ ys) → w.grownBy z1.val v.ownBlock → (v'.ownBlock = v.ownBlock ∨ v'.ownBlock = some w.heap.size) → wpList P ops Q rest (a.put o.dst v') z1.val) : wpList P ops Q (o :: rest) a w := by
  subst hm
  obtain ⟨i, z, hi, hz, hsize, hby, hzs⟩ := F.info
  have hown' : w.ownsRow lo e sz v l.length (l.flatMap enc) := hown
  have hys' : w.ownsRow lo2 e sz (.slice (some ⟨g, 0, none⟩) ys.length c) ys.length (ys.flatMap enc) := hys
  refine wpList_append_own_at _ hgd s x t ho lo e i z sz bytes F.und hi hz hsize hby hzs F.pos v l.length (l.flatMap enc) hs hown' ⟨g, 0, none⟩ ys.length c (ys.flatMap enc) hx (flatMap_length he ys) (fun j u hu => ?_) h1 (by simpa [maxLen] using hb') hb hlo' ?_
  · have e1 : (⟨g, 0, none⟩ : Addr).add j = ⟨g, j, none⟩ := by unfold Addr.add; split <;> simp_all
    rw [e1]
    have hj := (List.getElem?_eq_some_iff.1 hu).1
    rw [flatMap_length he] at hj
    exact (hys'.cellAt j (by omega)).trans hu
  · intro v' w1 hown1 hg1 _ hblk
    refine h v' ⟨w1, hE.grown hg1 fun k hk => Nat.le_trans hlo (World.ownsRow.lt hown' k hk).1⟩ ?_ hg1 hblk
    show w1.ownsRow _ _ _ _ _ _
    simpa [Own] using hown1
theorem Own.ne {α : Type} {enc : α → List Value} {e sz lo : Nat} {w : World} {v : Value} {l : List α} (h : Own enc e sz lo w v l) (hne : l ≠ []) : ∃ g c, v = .slice (some ⟨g, 0, none⟩) l.length c := by
  rcases h.2 with ⟨_, hn⟩ | ⟨g, cap, cur, hv, _⟩
  · exact absurd (List.eq_nil_of_length_eq_zero hn) hne
  · exact ⟨g, cap, hv⟩
theorem sFindBlock_any (t : Tree) (v0 v1 v2 : Value) (sum : Int) (w : World) (h : ST w v0 v1 v2 t) :
    Calls Try.prog 59 #[.agg #[v0, v1, v2], .int .i64 sum] w fun e w' => e = .returned (.int .i64 (findR t sum)) ∧ Up w w' := by
  have H := Lib.hid h
  obtain ⟨p0, c0, rfl, _, _⟩ := h.base.openc
  obtain ⟨p1, c1, rfl, _, _⟩ := h.bs.openc
  obtain ⟨p2, c2, rfl, _, _⟩ := h.pr.openc
  clear h
  have kv := fun w h => sTreeValid_any t (.slice p0 t.base.length c0) (.slice p1 t.bs.length c1) (.slice p2 t.pr.length c2) w h
  unfold findR
  rcases ho : t.ok with _ | _
  · rw [ho] at kv
    go_enter Try.func59, Try.ntmps59
    go_wp2_with (go_at_call 49; refine (kv _ (H.out.up (by repeat (first | (with_reducible exact Ext.refl _) | (with_reducible refine Ext.up ?_ _) | (with_reducible refine Ext.alloc ?_ _) | (with_reducible refine Ext.drew ?_) | (with_reducible refine Ext.setRow ?_ (by first | exact LeS.le | exact LeS.add _ | (simp; done) | (simp; omega)) _) | (with_reducible refine Ext.setCell ?_ (by first | exact LeS.le | exact LeS.add _ | (simp; done) | (simp; omega)) _))))).mono ?_; rintro e w' ⟨rfl, z, rfl⟩)
    go_ret
    exact ⟨rfl, (.of (by repeat (first | (with_reducible exact Ext.refl _) | (with_reducible refine Ext.up ?_ _) | (with_reducible refine Ext.alloc ?_ _) | (with_reducible refine Ext.drew ?_) | (with_reducible refine Ext.setRow ?_ (by first | exact LeS.le | exact LeS.add _ | (simp; done) | (simp; omega)) _) | (with_reducible refine Ext.setCell ?_ (by first | exact LeS.le | exact LeS.add _ | (simp; done) | (simp; omega)) _))))⟩
  · rw [ho] at kv
    go_enter Try.func59, Try.ntmps59
    go_wp2_with (first | (go_at_call 49; refine (kv _ (H.out.up (by repeat (first | (with_reducible exact Ext.refl _) | (with_reducible refine Ext.up ?_ _) | (with_reducible refine Ext.alloc ?_ _) | (with_reducible refine Ext.drew ?_) | (with_reducible refine Ext.setRow ?_ (by first | exact LeS.le | exact LeS.add _ | (simp; done) | (simp; omega)) _) | (with_reducible refine Ext.setCell ?_ (by first | exact LeS.le | exact LeS.add _ | (simp; done) | (simp; omega)) _))))).mono ?_; rintro e w' ⟨rfl, z, rfl⟩) | (go_at_call 106; refine (l13Find_any t _ _ _ sum _ (H.out.up (by repeat (first | (with_reducible exact Ext.refl _) | (with_reducible refine Ext.up ?_ _) | (with_reducible refine Ext.alloc ?_ _) | (with_reducible refine Ext.drew ?_) | (with_reducible refine Ext.setRow ?_ (by first | exact LeS.le | exact LeS.add _ | (simp; done) | (simp; omega)) _) | (with_reducible refine Ext.setCell ?_ (by first | exact LeS.le | exact LeS.add _ | (simp; done) | (simp; omega)) _))))).mono ?_; rintro e w' ⟨rfl, z2, rfl⟩))
    go_ret
    exact ⟨rfl, (.of (by repeat (first | (with_reducible exact Ext.refl _) | (with_reducible refine Ext.up ?_ _) | (with_reducible refine Ext.alloc ?_ _) | (with_reducible refine Ext.drew ?_) | (with_reducible refine Ext.setRow ?_ (by first | exact LeS.le | exact LeS.add _ | (simp; done) | (simp; omega)) _) | (with_reducible refine Ext.setCell ?_ (by first | exact LeS.le | exact LeS.add _ | (simp; done) | (simp; omega)) _))))⟩
theorem iFindBlock_any (t : Tree) (v0 v1 v2 : Value) (sum : Int) (w : World) (h : ST w v0 v1 v2 t) :
    Calls Try.prog 60 #[.agg #[v0, v1, v2], .int .i64 sum] w fun e w' => e = .returned (.int .i64 (findR t sum)) ∧ Up w w' := by
  have H := Lib.hid h
  obtain ⟨p0, c0, rfl, _, _⟩ := h.base.openc
  obtain ⟨p1, c1, rfl, _, _⟩ := h.bs.openc
  obtain ⟨p2, c2, rfl, _, _⟩ := h.pr.openc
  clear h
  have kv := fun w h => iTreeValid_any t (.slice p0 t.base.length c0) (.slice p1 t.bs.length c1) (.slice p2 t.pr.length c2) w h
  unfold findR
  rcases ho : t.ok with _ | _
  · rw [ho] at kv
    go_enter Try.func60, Try.ntmps60
    go_wp2_with (go_at_call 51; refine (kv _ (H.out.up (by repeat (first | (with_reducible exact Ext.refl _) | (with_reducible refine Ext.up ?_ _) | (with_reducible refine Ext.alloc ?_ _) | (with_reducible refine Ext.drew ?_) | (with_reducible refine Ext.setRow ?_ (by first | exact LeS.le | exact LeS.add _ | (simp; done) | (simp; omega)) _) | (with_reducible refine Ext.setCell ?_ (by first | exact LeS.le | exact LeS.add _ | (simp; done) | (simp; omega)) _))))).mono ?_; rintro e w' ⟨rfl, z, rfl⟩)
    go_ret
    exact ⟨rfl, (.of (by repeat (first | (with_reducible exact Ext.refl _) | (with_reducible refine Ext.up ?_ _) | (with_reducible refine Ext.alloc ?_ _) | (with_reducible refine Ext.drew ?_) | (with_reducible refine Ext.setRow ?_ (by first | exact LeS.le | exact LeS.add _ | (simp; done) | (simp; omega)) _) | (with_reducible refine Ext.setCell ?_ (by first | exact LeS.le | exact LeS.add _ | (simp; done) | (simp; omega)) _))))⟩
  · rw [ho] at kv
    by_cases hs : sum < 0
    · have hf := Lib.hid (findB_neg ho hs)
      go_enter Try.func60, Try.ntmps60
      go_wp2_with (go_at_call 51; refine (kv _ (H.out.up (by repeat (first | (with_reducible exact Ext.refl _) | (with_reducible refine Ext.up ?_ _) | (with_reducible refine Ext.alloc ?_ _) | (with_reducible refine Ext.drew ?_) | (with_reducible refine Ext.setRow ?_ (by first | exact LeS.le | exact LeS.add _ | (simp; done) | (simp; omega)) _) | (with_reducible refine Ext.setCell ?_ (by first | exact LeS.le | exact LeS.add _ | (simp; done) | (simp; omega)) _))))).mono ?_; rintro e w' ⟨rfl, z, rfl⟩)
      go_ret
      exact ⟨by rw [hf.out]; rfl, (.of (by repeat (first | (with_reducible exact Ext.refl _) | (with_reducible refine Ext.up ?_ _) | (with_reducible refine Ext.alloc ?_ _) | (with_reducible refine Ext.drew ?_) | (with_reducible refine Ext.setRow ?_ (by first | exact LeS.le | exact LeS.add _ | (simp; done) | (simp; omega)) _) | (with_reducible refine Ext.setCell ?_ (by first | exact LeS.le | exact LeS.add _ | (simp; done) | (simp; omega)) _))))⟩
    · go_enter Try.func60, Try.ntmps60
      go_wp2_with (first | (go_at_call 51; refine (kv _ (H.out.up (by repeat (first | (with_reducible exact Ext.refl _) | (with_reducible refine Ext.up ?_ _) | (with_reducible refine Ext.alloc ?_ _) | (with_reducible refine Ext.drew ?_) | (with_reducible refine Ext.setRow ?_ (by first | exact LeS.le | exact LeS.add _ | (simp; done) | (simp; omega)) _) | (with_reducible refine Ext.setCell ?_ (by first | exact LeS.le | exact LeS.add _ | (simp; done) | (simp; omega)) _))))).mono ?_; rintro e w' ⟨rfl, z, rfl⟩) | (go_at_call 121; refine (find_any t _ _ _ sum _ (H.out.up (by repeat (first | (with_reducible exact Ext.refl _) | (with_reducible refine Ext.up ?_ _) | (with_reducible refine Ext.alloc ?_ _) | (with_reducible refine Ext.drew ?_) | (with_reducible refine Ext.setRow ?_ (by first | exact LeS.le | exact LeS.add _ | (simp; done) | (simp; omega)) _) | (with_reducible refine Ext.setCell ?_ (by first | exact LeS.le | exact LeS.add _ | (simp; done) | (simp; omega)) _))))).mono ?_; rintro e w' ⟨rfl, z2, rfl⟩))
      go_ret
      exact ⟨rfl, (.of (by repeat (first | (with_reducible exact Ext.refl _) | (with_reducible refine Ext.up ?_ _) | (with_reducible refine Ext.alloc ?_ _) | (with_reducible refine Ext.drew ?_) | (with_reducible refine Ext.setRow ?_ (by first | exact LeS.le | exact LeS.add _ | (simp; done) | (simp; omega)) _) | (with_reducible refine Ext.setCell ?_ (by first | exact LeS.le | exact LeS.add _ | (simp; done) | (simp; omega)) _))))⟩
theorem has_any (t : Tree) (v0 v1 v2 : Value) (n : Int) (w : World) (h : ST w v0 v1 v2 t) :
    Calls Try.prog 122 #[.agg #[v0, v1, v2], .int .i64 n] w fun e w' => e = .returned (.bool (hasN t n)) ∧ Up w w' := by
  obtain ⟨p0, c0, rfl, _, _⟩ := h.base.openc
  obtain ⟨p1, c1, rfl, hl, _⟩ := h.bs.openc
  obtain ⟨p2, c2, rfl, _, _⟩ := h.pr.openc
  clear h
  go_enter Try.func122, Try.ntmps122
  go_wp2_with (go_at_call 89; refine (in_any _ _ _ _).mono ?_; rintro e w' ⟨rfl, rfl⟩)
  go_ret
  exact ⟨rfl, (.of (by repeat (first | (with_reducible exact Ext.refl _) | (with_reducible refine Ext.up ?_ _) | (with_reducible refine Ext.alloc ?_ _) | (with_reducible refine Ext.drew ?_) | (with_reducible refine Ext.setRow ?_ (by first | exact LeS.le | exact LeS.add _ | (simp; done) | (simp; omega)) _) | (with_reducible refine Ext.setCell ?_ (by first | exact LeS.le | exact LeS.add _ | (simp; done) | (simp; omega)) _))))⟩
set_option maxRecDepth 100000 in
set_option maxHeartbeats 1000000 in
theorem sPathTo_any (t : Tree) (v0 v1 v2 : Value) (n : Int) (w : World) (h : ST w v0 v1 v2 t) :
    Calls Try.prog 63 #[.agg #[v0, v1, v2], .int .i64 n] w fun e w' => ∃ v', e = .returned v' ∧ Up w w' ∧ Own encI 3 1 w.heap.size w' v' (pathR t n) := by
  have H := Lib.hid h
  obtain ⟨p0, c0, rfl, _, _⟩ := h.base.openc
  obtain ⟨p1, c1, rfl, hl1, _⟩ := h.bs.openc
  obtain ⟨p2, c2, rfl, hlp, hcp⟩ := h.pr.open
  clear h
  have kv := fun w h => sTreeValid_any t (.slice p0 t.base.length c0) (.slice p1 t.bs.length c1) (.slice p2 t.pr.length c2) w h
  rcases ho : t.ok with _ | _
  · rw [ho] at kv
    rw [pathR_no1 ho]
    go_enter Try.func63, Try.ntmps63
    go_wp2_with fail
    refine wp_loop_rounds 1 ?_; rw [rounds_succ]
    go_wp2_with (go_at_call 49; refine (kv _ (H.out.up (by repeat (first | (with_reducible exact Ext.refl _) | (with_reducible refine Ext.up ?_ _) | (with_reducible refine Ext.alloc ?_ _) | (with_reducible refine Ext.drew ?_) | (with_reducible refine Ext.setRow ?_ (by first | exact LeS.le | exact LeS.add _ | (simp; done) | (simp; omega)) _) | (with_reducible refine Ext.setCell ?_ (by first | exact LeS.le | exact LeS.add _ | (simp; done) | (simp; omega)) _))))).mono ?_; rintro e w' ⟨rfl, z, rfl⟩)
    go_ret
    refine ⟨_, rfl, (.of (by repeat (first | (with_reducible exact Ext.refl _) | (with_reducible refine Ext.up ?_ _) | (with_reducible refine Ext.alloc ?_ _) | (with_reducible refine Ext.drew ?_) | (with_reducible refine Ext.setRow ?_ (by first | exact LeS.le | exact LeS.add _ | (simp; done) | (simp; omega)) _) | (with_reducible refine Ext.setCell ?_ (by first | exact LeS.le | exact LeS.add _ | (simp; done) | (simp; omega)) _)))), ?_⟩
    show Own encI 3 1 w.heap.size _ (.slice (some ⟨w.heap.size + 1, 0, none⟩) 0 0) []
    exact Own.up (own_empty 3 w.heap.size (w.alloc (.cells #[.slice p0 t.base.length c0, .slice p1 t.bs.length c1, .slice p2 t.pr.length c2] 38)) (w.heap.size + 1) (by simp) (by simp)) (by repeat (first | (with_reducible exact Ext.refl _) | (with_reducible refine Ext.up ?_ _) | (with_reducible refine Ext.alloc ?_ _) | (with_reducible refine Ext.drew ?_) | (with_reducible refine Ext.setRow ?_ (by first | exact LeS.le | exact LeS.add _ | (simp; done) | (simp; omega)) _) | (with_reducible refine Ext.setCell ?_ (by first | exact LeS.le | exact LeS.add _ | (simp; done) | (simp; omega)) _)))
  rw [ho] at kv
  have kn := fun n w => l1In_any n 0 ((t.bs.length : Int) - 1) w
  rcases hn : hasN t n with _ | _
  · have kn0 := fun w => kn n w
    have hn' : inR n 0 ((t.bs.length : Int) - 1) = false := hn
    rw [hn'] at kn0
    rw [pathR_no2 hn]
    clear kn
    go_enter Try.func63, Try.ntmps63
    go_wp2_with fail
    refine wp_loop_rounds 1 ?_; rw [rounds_succ]
    go_wp2_with (first | (go_at_call 49; refine (kv _ (H.out.up (by repeat (first | (with_reducible exact Ext.refl _) | (with_reducible refine Ext.up ?_ _) | (with_reducible refine Ext.alloc ?_ _) | (with_reducible refine Ext.drew ?_) | (with_reducible refine Ext.setRow ?_ (by first | exact LeS.le | exact LeS.add _ | (simp; done) | (simp; omega)) _) | (with_reducible refine Ext.setCell ?_ (by first | exact LeS.le | exact LeS.add _ | (simp; done) | (simp; omega)) _))))).mono ?_; rintro e w' ⟨rfl, z, rfl⟩) | (go_at_call 84; refine (kn0 _).mono ?_; rintro e w' ⟨rfl, rfl⟩))
    go_ret
    refine ⟨_, rfl, (.of (by repeat (first | (with_reducible exact Ext.refl _) | (with_reducible refine Ext.up ?_ _) | (with_reducible refine Ext.alloc ?_ _) | (with_reducible refine Ext.drew ?_) | (with_reducible refine Ext.setRow ?_ (by first | exact LeS.le | exact LeS.add _ | (simp; done) | (simp; omega)) _) | (with_reducible refine Ext.setCell ?_ (by first | exact LeS.le | exact LeS.add _ | (simp; done) | (simp; omega)) _)))), ?_⟩
    show Own encI 3 1 w.heap.size _ (.slice (some ⟨w.heap.size + 1, 0, none⟩) 0 0) []
    exact Own.up (own_empty 3 w.heap.size (w.alloc (.cells #[.slice p0 t.base.length c0, .slice p1 t.bs.length c1, .slice p2 t.pr.length c2] 38)) (w.heap.size + 1) (by simp) (by simp)) (by repeat (first | (with_reducible exact Ext.refl _) | (with_reducible refine Ext.up ?_ _) | (with_reducible refine Ext.alloc ?_ _) | (with_reducible refine Ext.drew ?_) | (with_reducible refine Ext.setRow ?_ (by first | exact LeS.le | exact LeS.add _ | (simp; done) | (simp; omega)) _) | (with_reducible refine Ext.setCell ?_ (by first | exact LeS.le | exact LeS.add _ | (simp; done) | (simp; omega)) _)))
  rw [pathR_yes ho hn]
  have hp := Lib.hid (fun (i : Nat) (m : Int) (hm : t.pr[i]? = some m) => Tree.pr_lt ho hm)
  obtain ⟨hn0, hn1⟩ := inR_iff.1 (show inR n 0 ((t.bs.length : Int) - 1) = true from hn)
  have hl14 : t.bs.length ≤ 14 := (Tree.head_parts (Tree.ok_parts ho).1).2.1.2
  have hpl : t.pr.length = t.bs.length := (Tree.head_parts (Tree.ok_parts ho).1).2.2.1
  have HP := Lib.hid hcp
  have Hpl := Lib.hid hpl
  clear hcp hn ho hpl
  go_enter Try.func63, Try.ntmps63
  go_wp2_with fail
  go_loopw [1, 5] (fun s1 s5 wr => ∃ (m : Int) (f : Nat) (out : List Int), s1 = .int .i64 m ∧ -1 ≤ m ∧ m < t.bs.length ∧ m < f ∧ (climb t.pr f m).reverse ++ out = pathB t n ∧ f + out.length = t.bs.length ∧ Up (w.alloc (.cells #[.slice p0 t.base.length c0, .slice p1 t.bs.length c1, .slice p2 t.pr.length c2] 38)) wr ∧ Own encI 3 1 (w.heap.size + 1) wr s5 out ∧ ∃ g c, s5 = .slice (some ⟨g, 0, none⟩) out.length c) (fun s1 _ _ => ((intOf s1) + 1).toNat)
  case atStart => exact ⟨n, t.bs.length, [], rfl, by omega, by omega, by omega, by simp [pathB], by simp, (.of (by repeat (first | (with_reducible exact Ext.refl _) | (with_reducible refine Ext.up ?_ _) | (with_reducible refine Ext.alloc ?_ _) | (with_reducible refine Ext.drew ?_) | (with_reducible refine Ext.setRow ?_ (by first | exact LeS.le | exact LeS.add _ | (simp; done) | (simp; omega)) _) | (with_reducible refine Ext.setCell ?_ (by first | exact LeS.le | exact LeS.add _ | (simp; done) | (simp; omega)) _)))), own_empty _ _ _ _ (by simp) (by simp), _, _, rfl⟩
  case round =>
    obtain ⟨m, f, out, rfl, hm0, hm1, hmf, hcl, hfo, ⟨z, rfl⟩, hown, g5, c5, rfl⟩ := hrel
    have knm := fun w => kn m w
    by_cases hneg : m < 0
    · have hq : inR m 0 ((t.bs.length : Int) - 1) = false := by rw [inR_not]; omega
      rw [hq] at knm
      have hout : out = pathB t n := by rw [← hcl, climb_neg t.pr f hneg]; rfl
      subst hout
      have HO := Lib.hid hown; clear hown hcl kn
      go_wp2_with (first | (go_at_call 49; refine (kv _ (H.out.up (by repeat (first | (with_reducible exact Ext.refl _) | (with_reducible refine Ext.up ?_ _) | (with_reducible refine Ext.alloc ?_ _) | (with_reducible refine Ext.drew ?_) | (with_reducible refine Ext.setRow ?_ (by first | exact LeS.le | exact LeS.add _ | (simp; done) | (simp; omega)) _) | (with_reducible refine Ext.setCell ?_ (by first | exact LeS.le | exact LeS.add _ | (simp; done) | (simp; omega)) _))))).mono ?_; rintro e w' ⟨rfl, z1, rfl⟩) | (go_at_call 84; refine (knm _).mono ?_; rintro e w' ⟨rfl, rfl⟩))
      go_ret
      exact ⟨_, rfl, (.of (by repeat (first | (with_reducible exact Ext.refl _) | (with_reducible refine Ext.up ?_ _) | (with_reducible refine Ext.alloc ?_ _) | (with_reducible refine Ext.drew ?_) | (with_reducible refine Ext.setRow ?_ (by first | exact LeS.le | exact LeS.add _ | (simp; done) | (simp; omega)) _) | (with_reducible refine Ext.setCell ?_ (by first | exact LeS.le | exact LeS.add _ | (simp; done) | (simp; omega)) _)))), Own.lo (HO.out.up (by repeat (first | (with_reducible exact Ext.refl _) | (with_reducible refine Ext.up ?_ _) | (with_reducible refine Ext.alloc ?_ _) | (with_reducible refine Ext.drew ?_) | (with_reducible refine Ext.setRow ?_ (by first | exact LeS.le | exact LeS.add _ | (simp; done) | (simp; omega)) _) | (with_reducible refine Ext.setCell ?_ (by first | exact LeS.le | exact LeS.add _ | (simp; done) | (simp; omega)) _)))) (Nat.le_succ _)⟩
    · have hq : inR m 0 ((t.bs.length : Int) - 1) = true := by rw [inR_iff]; omega
      rw [hq] at knm
      obtain ⟨m', hm'⟩ := getElem?_some_of_lt (l := t.pr) (k := m.toNat) (by have := Hpl.out; omega)
      obtain ⟨b2, off2, rfl, hb2, hc2⟩ := HP.out m.toNat m' hm'
      have e0 : w.cell? ⟨b2, off2 + m.toNat, none⟩ = some (.int .i64 m') := by have := hc2 0 _ rfl; simpa using this
      obtain ⟨hm2, hm3⟩ := hp.out m.toNat m' hm'
      have m0 : 0 ≤ m := by omega
      have mp : m < (t.pr.length : Int) := by have := Hpl.out; omega
      obtain ⟨f', rfl⟩ : ∃ f', f = f' + 1 := ⟨f - 1, by omega⟩
      have hcl2 : (climb t.pr f' m').reverse ++ (m :: out) = pathB t n := by rw [← hcl, climb_step m0 hm']; simp
      have Hcl := Lib.hid hcl2
      have HO := Lib.hid hown; clear hown hcl hcl2 hm' hc2 kn
      have hol : out.length ≤ 14 := by omega
      go_wp2_with (first | (go_at_call 49; refine (kv _ (H.out.up (by repeat (first | (with_reducible exact Ext.refl _) | (with_reducible refine Ext.up ?_ _) | (with_reducible refine Ext.alloc ?_ _) | (with_reducible refine Ext.drew ?_) | (with_reducible refine Ext.setRow ?_ (by first | exact LeS.le | exact LeS.add _ | (simp; done) | (simp; omega)) _) | (with_reducible refine Ext.setCell ?_ (by first | exact LeS.le | exact LeS.add _ | (simp; done) | (simp; omega)) _))))).mono ?_; rintro e w' ⟨rfl, z1, rfl⟩) | (go_at_call 84; refine (knm _).mono ?_; rintro e w' ⟨rfl, rfl⟩) | (at_builtin; refine wpList_pushX fI rfl (.tmp 18) (.tmp 19) rfl encI encI_length (w.alloc (.cells #[.slice p0 t.base.length c0, .slice p1 t.bs.length c1, .slice (some ⟨b2, off2, none⟩) t.pr.length c2] 38)) (lo := z1.val.heap.size) out [m] rfl (Own.lit rfl (Nat.le_refl _) rfl rfl encI_length (by simp)) (by repeat (first | (with_reducible exact Ext.refl _) | (with_reducible refine Ext.up ?_ _) | (with_reducible refine Ext.alloc ?_ _) | (with_reducible refine Ext.drew ?_) | (with_reducible refine Ext.setRow ?_ (by first | exact LeS.le | exact LeS.add _ | (simp; done) | (simp; omega)) _) | (with_reducible refine Ext.setCell ?_ (by first | exact LeS.le | exact LeS.add _ | (simp; done) | (simp; omega)) _))) LeS.le (by simp) rfl rfl (HO.out.up (by repeat (first | (with_reducible exact Ext.refl _) | (with_reducible refine Ext.up ?_ _) | (with_reducible refine Ext.alloc ?_ _) | (with_reducible refine Ext.drew ?_) | (with_reducible refine Ext.setRow ?_ (by first | exact LeS.le | exact LeS.add _ | (simp; done) | (simp; omega)) _) | (with_reducible refine Ext.setCell ?_ (by first | exact LeS.le | exact LeS.add _ | (simp; done) | (simp; omega)) _)))) (oneIs _) (by simp; omega) (by simp; omega) ?_; intro v6 z6 o6 _ b6))
      have O6 := Lib.hid o6; clear o6
      go_wp2_with fail
      go_roundw
      case rel =>
        have hsz : w.heap.size + 1 ≤ z1.val.heap.size := by have h1 := z1.ext.size; have h2 := z.ext.size; simp at h1 h2; omega
        exact ⟨m', f', m :: out, rfl, hm2, by omega, by omega, Hcl.out, by rw [List.length_cons]; omega, ⟨z6, rfl⟩, Own.lo O6.out hsz, Own.ne O6.out (by simp)⟩
      case measure => simp [intOf]; omega
def hasI' (l : List Int) (a : Int) : Bool := hasI l a
set_option maxHeartbeats 1000000 in
theorem sIsBefore_any (t : Tree) (v0 v1 v2 : Value) (a n : Int) (w : World) (h : ST w v0 v1 v2 t) :
    Calls Try.prog 61 #[.agg #[v0, v1, v2], .int .i64 a, .int .i64 n] w fun e w' => e = .returned (.bool (hasI (pathR t n) a)) ∧ Up w w' := by
  have H := Lib.hid h
  obtain ⟨p0, c0, rfl, _, _⟩ := h.base.openc
  obtain ⟨p1, c1, rfl, hl1, _⟩ := h.bs.openc
  obtain ⟨p2, c2, rfl, hlp, _⟩ := h.pr.openc
  clear h
  go_enter Try.func61, Try.ntmps61
  go_wp2_with fail
  refine (sPathTo_any t _ _ _ n _ (H.out.up (by repeat (first | (with_reducible exact Ext.refl _) | (with_reducible refine Ext.up ?_ _) | (with_reducible refine Ext.alloc ?_ _) | (with_reducible refine Ext.drew ?_) | (with_reducible refine Ext.setRow ?_ (by first | exact LeS.le | exact LeS.add _ | (simp; done) | (simp; omega)) _) | (with_reducible refine Ext.setCell ?_ (by first | exact LeS.le | exact LeS.add _ | (simp; done) | (simp; omega)) _))))).mono ?_; rintro e w' ⟨v', rfl, ⟨z1, rfl⟩, hown⟩
  obtain ⟨p, c, rfl, hlen, hc⟩ := (hown.sl encI_length).open
  clear hown
  go_wp2_with fail
  go_loop [8] (fun s8 => ∃ k : Nat, s8 = .int .i64 k ∧ k ≤ (pathR t n).length ∧ hasI ((pathR t n).take k) a = false) (fun s8 => (pathR t n).length - (intOf s8).toNat)
  case atStart => exact ⟨0, rfl, Nat.zero_le _, rfl⟩
  case round =>
    obtain ⟨k, rfl, hk, hall⟩ := hrel
    by_cases hlt : k < (pathR t n).length
    · obtain ⟨y, hyk⟩ := getElem?_some_of_lt hlt
      obtain ⟨b, off, rfl, hb, hcc⟩ := hc k y hyk
      have c0 : z1.val.cell? ⟨b, off + k, none⟩ = some (.int .i64 y) := by have := hcc 0 _ rfl; simpa using this
      have k0 : (0 : Int) ≤ (k : Int) := by omega
      have Hy := Lib.hid hyk; have Hall := Lib.hid hall
      clear hcc hc hyk hall
      rcases eq_cases y a with ⟨h1, h1'⟩ | ⟨h1, h1'⟩
      · have H1 := Lib.hid h1; clear h1
        go_wp2_with fail
        go_ret
        refine ⟨?_, (.of (by repeat (first | (with_reducible exact Ext.refl _) | (with_reducible refine Ext.up ?_ _) | (with_reducible refine Ext.alloc ?_ _) | (with_reducible refine Ext.drew ?_) | (with_reducible refine Ext.setRow ?_ (by first | exact LeS.le | exact LeS.add _ | (simp; done) | (simp; omega)) _) | (with_reducible refine Ext.setCell ?_ (by first | exact LeS.le | exact LeS.add _ | (simp; done) | (simp; omega)) _))))⟩
        have : a ∈ pathR t n := by rw [← H1.out]; exact List.mem_of_getElem? Hy.out
        rw [hasI_iff.2 this]; rfl
      · have h1b : (a == y) = false := by simp; omega
        have H1 := Lib.hid h1b
        go_wp2_with fail
        go_round
        case rel => exact ⟨k + 1, by go_num, by omega, contains_next Hy.out Hall.out H1.out⟩
        case measure => simp [intOf]; omega
    · go_wp2_with fail
      go_ret
      have : k = (pathR t n).length := by omega
      rw [this, List.take_length] at hall
      exact ⟨by rw [hall]; rfl, (.of (by repeat (first | (with_reducible exact Ext.refl _) | (with_reducible refine Ext.up ?_ _) | (with_reducible refine Ext.alloc ?_ _) | (with_reducible refine Ext.drew ?_) | (with_reducible refine Ext.setRow ?_ (by first | exact LeS.le | exact LeS.add _ | (simp; done) | (simp; omega)) _) | (with_reducible refine Ext.setCell ?_ (by first | exact LeS.le | exact LeS.add _ | (simp; done) | (simp; omega)) _))))⟩
end Go.Proofs.Ytknohbdhbjppjaa
namespace Go.Proofs.Ytknohbdhbjppjaa
open Go Go.RowKit

theorem rootOf_in {s : List Ent} (h : entsOk 1 s = true) : 0 ≤ rootOf s ∧ rootOf s ≤ 1000002 := by
  rw [rootOf_yes h]
  unfold rootV
  have hl := treeRow_length (valsOf s) 5 (by omega)
  obtain ⟨x, hx⟩ := getElem?_some_of_lt (l := treeRow (valsOf s) 5) (k := 0) (by rw [hl]; decide)
  have := treeRow_in (valsOf s) 5 x (List.mem_of_getElem? hx)
  rw [List.getD_eq_getElem?_getD, hx]
  simp only [Option.getD_some]; omega
theorem firstB_ok {s : List Ent} (h : entsOk 1 s = true) : (firstB s).okL [] = true := by
  rw [firstB_yes h]
  have := rootOf_in h
  simp only [Blk.okL, Bool.and_eq_true, inR_iff]
  exact ⟨by omega, by omega, by omega, by omega, by omega, rfl⟩
def treeOne (s : List Ent) : Tree := ⟨s, [(firstB s, [])], [-1]⟩
theorem treeOne_ok {s : List Ent} (h : entsOk 1 s = true) : (treeOne s).ok = true := by
  refine Tree.ok_y ?_ ?_ ?_ ?_
  · simp [Tree.head, treeOne, h, inR]
  · simp [Tree.first, treeOne, sameF]
  · refine upTo_iff.2 fun k hk => ?_
    obtain rfl : k = 0 := by simp [treeOne] at hk; omega
    rw [newAt_eq (x := (firstB s, [])) (by rfl)]
    have := bsum_ok (firstB s) []
    rw [firstB_ok h] at this
    show (decide (0 ≤ bsum (firstB s) []) && _) = true
    rw [this]; rfl
  · refine upTo_iff.2 fun k hk => ?_
    obtain rfl : k = 0 := by simp [treeOne] at hk; omega
    exact linkAt_zero _ _
theorem newAt_take {cs : List BL} {n i : Nat} (hi : i < n) : newAt (cs.take n) i = newAt cs i := by
  unfold newAt
  rw [List.getElem?_take_of_lt hi, List.take_take, Nat.min_eq_left (by omega)]
theorem linkAt_take {cs : List BL} {pr : List Int} {n i : Nat} (hi : i < n) (h : linkAt cs pr i = true) : linkAt (cs.take n) (pr.take n) i = true := by
  unfold linkAt at *
  rw [List.getElem?_take_of_lt hi, List.getElem?_take_of_lt hi]
  by_cases h0 : i = 0
  · simp [h0]
  · simp only [h0, decide_false, Bool.false_or] at *
    rcases hx : cs[i]? with _ | x
    · simp
    · rcases hn : pr[i]? with _ | m
      · simp
      · simp only [hx, hn] at h
        simp only [Bool.and_eq_true, inR_iff] at h ⊢
        refine ⟨h.1, ?_⟩
        rw [List.getElem?_take_of_lt (by omega)]
        exact h.2
/-- The first blocks of a valid tree are a valid tree. -/
theorem Tree.take_ok {t : Tree} (h : t.ok = true) {n : Nat} (h0 : 1 ≤ n) (hn : n ≤ t.bs.length) : (Tree.mk t.base (t.bs.take n) (t.pr.take n)).ok = true := by
  obtain ⟨h1, h2, h3, h4⟩ := Tree.ok_parts h
  obtain ⟨a1, a2, a3, a4⟩ := Tree.head_parts h1
  refine Tree.ok_y ?_ ?_ ?_ ?_
  · simp only [Tree.head, a1, Bool.true_and, Bool.and_eq_true, inR_iff, decide_eq_true_eq, List.length_take]
    refine ⟨by omega, by omega, ?_⟩
    rw [List.getD_eq_getElem?_getD, List.getElem?_take_of_lt (by omega), ← List.getD_eq_getElem?_getD]
    exact a4
  · simp only [Tree.first, List.getElem?_take_of_lt (show 0 < n by omega)]
    exact h2
  · refine upTo_iff.2 fun k hk => ?_
    rw [List.length_take] at hk
    rw [newAt_take (by omega)]
    exact upTo_iff.1 h3 k (by omega)
  · refine upTo_iff.2 fun k hk => ?_
    rw [List.length_take] at hk
    exact linkAt_take (by omega) (upTo_iff.1 h4 k (by omega))
theorem Tree.none_ok (s : List Ent) : (Tree.mk s [] []).ok = false := by
  refine Tree.ok_h ?_
  simp [Tree.head, inR]
end Go.Proofs.Ytknohbdhbjppjaa
namespace Go.Proofs.Ytknohbdhbjppjaa
open Go Go.RowKit Go.Proofs

set_option maxRecDepth 100000 in
theorem open_any (bs : List Int) (v : Value) (w : World) (h : SL (RF encU) 1 w v bs) (hb : ∀ b ∈ bs, 0 ≤ b ∧ b ≤ 255) :
    Calls Try.prog 124 #[v] w fun e w' => ∃ rb, e = .returned (.pointer (some ⟨rb, 0, none⟩)) ∧ Up w w' ∧ Rd w w' rb 0 := by
  have hs := h
  obtain ⟨p, c, rfl, hl, hc⟩ := h.openc
  have Hs := Lib.hid hs; clear h hs
  by_cases hlen : 2000 < bs.length
  · obtain ⟨p', c', e', _, hcc⟩ := Hs.out.open
    cases e'
    obtain ⟨x, hx⟩ := getElem?_some_of_lt (show 0 < bs.length by omega)
    obtain ⟨b, off, rfl, _, _⟩ := hcc 0 x hx
    clear hcc hx
    have h2 : (2000 : Int) ≤ (c : Int) := by omega
    go_enter Try.func124, Try.ntmps124
    go_wp2_with fail
    go_ret
    have ht : (bs.take 2000).length = 2000 := by rw [List.length_take]; omega
    have hst := SL.take Hs.out (k := 2000) (by omega)
    refine ⟨w.heap.size, rfl, (.of (by repeat (first | (with_reducible exact Ext.refl _) | (with_reducible refine Ext.up ?_ _) | (with_reducible refine Ext.alloc ?_ _) | (with_reducible refine Ext.drew ?_) | (with_reducible refine Ext.setRow ?_ (by first | exact LeS.le | exact LeS.add _ | (simp; done) | (simp; omega)) _) | (with_reducible refine Ext.setCell ?_ (by first | exact LeS.le | exact LeS.add _ | (simp; done) | (simp; omega)) _)))), (by repeat (first | (with_reducible exact Ext.refl _) | (with_reducible refine Ext.up ?_ _) | (with_reducible refine Ext.alloc ?_ _) | (with_reducible refine Ext.drew ?_) | (with_reducible refine Ext.setRow ?_ (by first | exact LeS.le | exact LeS.add _ | (simp; done) | (simp; omega)) _) | (with_reducible refine Ext.setCell ?_ (by first | exact LeS.le | exact LeS.add _ | (simp; done) | (simp; omega)) _))), Nat.le_refl _, _, bs.take 2000, 0, _, heap_alloc_new w _, hst, by omega, fun b hbm => hb b (List.mem_of_mem_take hbm), by omega, by omega⟩
  · go_enter Try.func124, Try.ntmps124
    go_wp2_with fail
    go_ret
    refine ⟨w.heap.size, rfl, (.of (by repeat (first | (with_reducible exact Ext.refl _) | (with_reducible refine Ext.up ?_ _) | (with_reducible refine Ext.alloc ?_ _) | (with_reducible refine Ext.drew ?_) | (with_reducible refine Ext.setRow ?_ (by first | exact LeS.le | exact LeS.add _ | (simp; done) | (simp; omega)) _) | (with_reducible refine Ext.setCell ?_ (by first | exact LeS.le | exact LeS.add _ | (simp; done) | (simp; omega)) _)))), (by repeat (first | (with_reducible exact Ext.refl _) | (with_reducible refine Ext.up ?_ _) | (with_reducible refine Ext.alloc ?_ _) | (with_reducible refine Ext.drew ?_) | (with_reducible refine Ext.setRow ?_ (by first | exact LeS.le | exact LeS.add _ | (simp; done) | (simp; omega)) _) | (with_reducible refine Ext.setCell ?_ (by first | exact LeS.le | exact LeS.add _ | (simp; done) | (simp; omega)) _))), Nat.le_refl _, _, bs, 0, _, heap_alloc_new w _, Hs.out, by omega, hb, by omega, by omega⟩
set_option maxRecDepth 100000 in
theorem drawConflict_any (bs : List Int) (v : Value) (w : World) (h : SL (RF encU) 1 w v bs) (hb : ∀ b ∈ bs, 0 ≤ b ∧ b ≤ 255) :
    Calls Try.prog 65 #[v] w fun e w' => ∃ x y : Actn, e = .returned (.tuple #[.agg #[.int .i64 x.kind, .int .i64 x.src, .int .i64 x.dst, .int .i64 x.amt], .agg #[.int .i64 y.kind, .int .i64 y.src, .int .i64 y.dst, .int .i64 y.amt]]) ∧ Up w w' := by
  have H := Lib.hid h; clear h
  go_enter Try.func65, Try.ntmps65
  go_wp2_with fail
  refine (open_any bs v _ (H.out.up (by repeat (first | (with_reducible exact Ext.refl _) | (with_reducible refine Ext.up ?_ _) | (with_reducible refine Ext.alloc ?_ _) | (with_reducible refine Ext.drew ?_) | (with_reducible refine Ext.setRow ?_ (by first | exact LeS.le | exact LeS.add _ | (simp; done) | (simp; omega)) _) | (with_reducible refine Ext.setCell ?_ (by first | exact LeS.le | exact LeS.add _ | (simp; done) | (simp; omega)) _)))) hb).mono ?_; rintro e w' ⟨rb, rfl, ⟨z0, rfl⟩, hr⟩
  have H0 := Lib.hid hr
  have hL : LtS rb z0.val := ⟨hr.lt⟩
  have hN0 : NeS w.heap.size rb := ⟨by have := hr.old; simp at this; omega⟩
  have hN1 : NeS (w.heap.size + 1) rb := ⟨by have := hr.old; simp at this; omega⟩
  have Hold := Lib.hid hr.old
  clear hr
  go_wp2_with fail
  refine (action_any _ _ rb _ 14 H0.out (by omega) (by omega) (by omega)).mono ?_; rintro e w' ⟨x, rfl, _, ⟨z1, rfl⟩, hr⟩
  have H1 := Lib.hid hr; clear hr
  go_wp2_with fail
  refine (action_any _ _ rb _ 14 H1.out (by omega) (by omega) (by omega)).mono ?_; rintro e w' ⟨y, rfl, _, ⟨z2, rfl⟩, hr⟩
  have H2 := Lib.hid hr; clear hr
  go_wp2_with fail
  have E : Ext w z2.val := Ext.upR (Ext.upR (show Ext w z0.val from (by repeat (first | (with_reducible exact Ext.refl _) | (with_reducible refine Ext.up ?_ _) | (with_reducible refine Ext.alloc ?_ _) | (with_reducible refine Ext.drew ?_) | (with_reducible refine Ext.setRow ?_ (by first | exact LeS.le | exact LeS.add _ | (simp; done) | (simp; omega)) _) | (with_reducible refine Ext.setCell ?_ (by first | exact LeS.le | exact LeS.add _ | (simp; done) | (simp; omega)) _)))) (by have := Hold.out; simp at this; omega) z1) (by have := Hold.out; simp at this; omega) z2
  have HE := Lib.hid E; clear E
  refine bodyPost_ret (v := .tuple #[.agg #[.int .i64 x.kind, .int .i64 x.src, .int .i64 x.dst, .int .i64 x.amt], .agg #[.int .i64 y.kind, .int .i64 y.src, .int .i64 y.dst, .int .i64 y.amt]]) (by simp [results, Try.results65, go_sem]) rfl ?_
  refine ⟨x, y, rfl, .of ?_⟩
  repeat (first | (with_reducible exact HE.out) | (with_reducible refine Ext.setCell ?_ (by first | exact Nat.le_refl _ | exact Nat.le_succ _) _))
theorem alive_any (w : World) : Calls Try.prog 69 #[] w fun e w' => e = .returned (.bool true) ∧ Up w w' := by
  have hs : sumOf 0 [] = 17 := rfl
  have k := fun a c w => sumOf_any 0 [] (.slice a 0 c) w (SL.nil _ _ _ _ _)
  rw [hs] at k
  go_enter Try.func69, Try.ntmps69
  go_wp2_with (go_at_call 131; refine (k _ _ _).mono ?_; rintro e w' ⟨rfl, z, rfl⟩)
  go_ret
  exact ⟨rfl, (.of (by repeat (first | (with_reducible exact Ext.refl _) | (with_reducible refine Ext.up ?_ _) | (with_reducible refine Ext.alloc ?_ _) | (with_reducible refine Ext.drew ?_) | (with_reducible refine Ext.setRow ?_ (by first | exact LeS.le | exact LeS.add _ | (simp; done) | (simp; omega)) _) | (with_reducible refine Ext.setCell ?_ (by first | exact LeS.le | exact LeS.add _ | (simp; done) | (simp; omega)) _))))⟩
theorem conf_self (x : Actn) : conflict x x = x.ok := by
  have h : common x.wk x.wk = true := by
    unfold Actn.wk
    split
    · simp [common]
    · split <;> simp [common]
  unfold conflict conf
  rw [h, Bool.true_or, Bool.and_true, Bool.and_self]
set_option maxRecDepth 100000 in
set_option maxHeartbeats 1000000 in
theorem FnConflictSelf_any (bs : List Int) (v : Value) (w : World) (h : SL (RF encU) 1 w v bs) (hb : ∀ b ∈ bs, 0 ≤ b ∧ b ≤ 255) :
    Calls Try.prog 13 #[v] w fun e w' => e = .returned (.bool true) ∧ Up w w' := by
  have H := Lib.hid h
  obtain ⟨p, c, rfl, _, _⟩ := h.openc
  clear h
  by_cases hl : 1048576 < bs.length
  · go_enter Try.func13, Try.ntmps13
    go_wp2_with fail
    go_ret
    exact ⟨rfl, (.of (by repeat (first | (with_reducible exact Ext.refl _) | (with_reducible refine Ext.up ?_ _) | (with_reducible refine Ext.alloc ?_ _) | (with_reducible refine Ext.drew ?_) | (with_reducible refine Ext.setRow ?_ (by first | exact LeS.le | exact LeS.add _ | (simp; done) | (simp; omega)) _) | (with_reducible refine Ext.setCell ?_ (by first | exact LeS.le | exact LeS.add _ | (simp; done) | (simp; omega)) _))))⟩
  go_enter Try.func13, Try.ntmps13
  go_wp2_with fail
  refine (drawConflict_any bs _ _ (H.out.up (by repeat (first | (with_reducible exact Ext.refl _) | (with_reducible refine Ext.up ?_ _) | (with_reducible refine Ext.alloc ?_ _) | (with_reducible refine Ext.drew ?_) | (with_reducible refine Ext.setRow ?_ (by first | exact LeS.le | exact LeS.add _ | (simp; done) | (simp; omega)) _) | (with_reducible refine Ext.setCell ?_ (by first | exact LeS.le | exact LeS.add _ | (simp; done) | (simp; omega)) _)))) hb).mono ?_; rintro e w' ⟨x, y, rfl, ⟨z0, rfl⟩⟩
  go_wp2_with fail
  (refine wp_region_up (by kernel_rfl) (by kernel_rfl) ?_; (repeat (go_big_quiet_step (first | (go_at_call 66; exact Calls.up (iConflict_any x y _)) | (go_at_call 67; exact Calls.up (sConflict_any x y _))))); refine wpQuiet_nil ?_; intro _ hw'; obtain ⟨zq, hw''⟩ := hw'; subst hw'')
  go_wp2_with fail
  have ks := fun w => iConflict_any x x w
  simp only [conf_self] at ks
  (refine wp_region_up (by kernel_rfl) (by kernel_rfl) ?_; (repeat (go_big_quiet_step (first | (go_at_call 66; exact Calls.up (ks _)) | (go_at_call 68; exact Calls.up (sActionValid_any x _)) | (go_at_call 69; exact Calls.up (alive_any _))))); refine wpQuiet_nil ?_; intro _ hw'; obtain ⟨zq, hw''⟩ := hw'; subst hw'')
  go_wp2_with fail
  go_ret
  exact ⟨rfl, (.of (by repeat (first | (with_reducible exact Ext.refl _) | (with_reducible refine Ext.up ?_ _) | (with_reducible refine Ext.alloc ?_ _) | (with_reducible refine Ext.drew ?_) | (with_reducible refine Ext.setRow ?_ (by first | exact LeS.le | exact LeS.add _ | (simp; done) | (simp; omega)) _) | (with_reducible refine Ext.setCell ?_ (by first | exact LeS.le | exact LeS.add _ | (simp; done) | (simp; omega)) _))))⟩
end Go.Proofs.Ytknohbdhbjppjaa
