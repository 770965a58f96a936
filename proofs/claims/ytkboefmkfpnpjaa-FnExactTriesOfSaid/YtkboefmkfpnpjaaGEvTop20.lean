/- Walks: first blocks, blocks that are compared. Walks: blocks that are compared with the first one. Walks: blocks that are found by their sums. Walks: trees that are valid. Walks: trees that are valid, the reference's side. Walks: blocks that are found, ways to blocks. Plain laws: trees of one block; the first blocks of a tree; ways in a tree. The law FnConflictSelf's walk. Walks: runs without actions; first blocks are right. -/
import Derived.Test.YtkboefmkfpnpjaaGEvTop10
import Derived.Test.YtkboefmkfpnpjaaGEvTop08
import Derived.Test.YtkboefmkfpnpjaaGEvTop19
import Derived.Test.YtkboefmkfpnpjaaGEvTop13
import Derived.Test.YtkboefmkfpnpjaaGEvTop06
import Derived.Deep.RegionHeld3
import Derived.Test.YtkboefmkfpnpjaaGEvTop12
import Derived.Test.YtkboefmkfpnpjaaGEvTop09
import Derived.Test.YtkboefmkfpnpjaaGEvTop01
set_option linter.unusedSimpArgs false
set_option linter.unusedVariables false
namespace Go.Proofs.Ytkboefmkfpnpjaa
open Go Go.RowKit Go.Proofs

set_option maxHeartbeats 1000000 in
theorem sSumOf_any (tag : Int) (l : List Int) (v : Value) (w : World) (h : SL (RF encI) 1 w v l) :
    Calls Try.prog 82 #[.int .i64 tag, v] w fun e w' => e = .returned (.int .i64 (sumOf tag l)) ∧ w = w' := by
  have H := Lib.hid h
  obtain ⟨p, cap, rfl, hlen, hc⟩ := h.open
  clear h
  go_enter Try.func82, Try.ntmps82
  go_wp2_with fail
  go_loop [5] (fun s5 => ∃ k : Nat, s5 = .int .i64 k ∧ k ≤ l.length ∧ (l.take k).all (fun n => inR n 0 2000000) = true) (fun s5 => l.length - (intOf s5).toNat)
  case atStart => exact ⟨0, rfl, Nat.zero_le _, rfl⟩
  case round =>
    obtain ⟨k, rfl, hk, hall⟩ := hrel
    by_cases hlt : k < l.length
    · obtain ⟨x, hxk⟩ := getElem?_some_of_lt hlt
      obtain ⟨b, off, rfl, hb, hcc⟩ := hc k x hxk
      have c0 : w.cell? ⟨b, off + k, none⟩ = some (.int .i64 x) := by have := hcc 0 _ rfl; simpa using this
      have k0 : (0 : Int) ≤ (k : Int) := by omega
      have Hx := Lib.hid hxk; have Hall := Lib.hid hall
      clear hc hcc hxk hall
      have kq := fun w => l1In_any x 0 2000000 w
      rcases hq : inR x 0 2000000 with _ | _
      · rw [hq] at kq
        go_wp2_with (go_at_call 66; refine (kq _).mono ?_; rintro e w' ⟨rfl, rfl⟩)
        go_ret
        refine ⟨?_, rfl⟩
        have hs : summed l = false := List.all_eq_false.2 ⟨x, List.mem_of_getElem? Hx.out, by rw [hq]; simp⟩
        rw [sumOf_no hs]; rfl
      · rw [hq] at kq
        go_wp2_with (go_at_call 66; refine (kq _).mono ?_; rintro e w' ⟨rfl, rfl⟩)
        go_round
        case rel => exact ⟨k + 1, by go_num, by omega, by rw [List.take_add_one, Hx.out, List.all_append, Hall.out]; simp [hq]⟩
        case measure => simp [intOf]; omega
    · obtain rfl : k = l.length := by omega
      rw [List.take_length] at hall
      have hs : summed l = true := hall
      have Hs := Lib.hid hs; clear hall hs
      rcases ht : inR tag 0 9 with _ | _
      · go_wp2_with (go_at_call 66; refine (l1In_any _ _ _ _).mono ?_; rintro e w' ⟨rfl, rfl⟩)
        go_ret
        exact ⟨by rw [sumOf_tag ht]; rfl, rfl⟩
      · obtain ⟨t0, t9⟩ := inR_iff.1 ht
        go_wp2_with (first | (go_at_call 66; refine (l1In_any _ _ _ _).mono ?_; rintro e w' ⟨rfl, rfl⟩) | (go_at_call 141; refine (l1Sum_any tag l _ _ H.out t0 t9 Hs.out).mono ?_; rintro e w' ⟨rfl, rfl⟩))
        go_ret
        exact ⟨by rw [sumOf_yes t0 t9 Hs.out]; rfl, rfl⟩
theorem sumOf4_nil : sumOf 4 [] = 21 := rfl
theorem iEffectsSum_nil (w : World) : Calls Try.prog 29 #[.slice none 0 0] w fun e w' => e = .returned (.int .i64 21) ∧ Up w w' := by
  go_enter Try.func29, Try.ntmps29
  go_wp2
  refine wp_loop_rounds 1 ?_; rw [rounds_succ]
  go_wp2_with (go_at_call 67; refine (sumOf_any 4 [] _ _ (SL.nil _ _ _ _ _)).mono ?_; rintro e w' ⟨rfl, z, rfl⟩)
  go_ret
  exact ⟨rfl, (.of (by repeat (first | exact Ext.refl _ | refine Ext.up ?_ _ | refine Ext.alloc ?_ _ | refine Ext.drew ?_ | refine Ext.setRow ?_ (by first | (dsimp only; omega) | exact LeS.le | exact LeS.add _ | (simp; done) | (simp; omega)) _ | refine Ext.setCell ?_ (by first | (dsimp only; omega) | exact LeS.le | exact LeS.add _ | (simp; done) | (simp; omega)) _)))⟩
theorem sEffectsSum_nil (a : Option Addr) (c : Nat) (w : World) : Calls Try.prog 30 #[.slice a 0 c] w fun e w' => e = .returned (.int .i64 21) ∧ Up w w' := by
  go_enter Try.func30, Try.ntmps30
  go_wp2
  refine wp_loop_rounds 1 ?_; rw [rounds_succ]
  go_wp2_with (go_at_call 82; refine (sSumOf_any 4 [] _ _ (SL.nil _ _ _ _ _)).mono ?_; rintro e w' ⟨rfl, rfl⟩)
  go_ret
  exact ⟨rfl, (.of (by repeat (first | exact Ext.refl _ | refine Ext.up ?_ _ | refine Ext.alloc ?_ _ | refine Ext.drew ?_ | refine Ext.setRow ?_ (by first | (dsimp only; omega) | exact LeS.le | exact LeS.add _ | (simp; done) | (simp; omega)) _ | refine Ext.setCell ?_ (by first | (dsimp only; omega) | exact LeS.le | exact LeS.add _ | (simp; done) | (simp; omega)) _)))⟩
def Blk.agg (b : Blk) (v : Value) : Value := .agg #[.int .i64 b.bf, .int .i64 b.ht, .int .i64 b.vw, v, .int .i64 b.rt, .int .i64 b.ef]
end Go.Proofs.Ytkboefmkfpnpjaa
namespace Go.Proofs.Ytkboefmkfpnpjaa
open Go Go.RowKit Go.Proofs

theorem guards6 (a b c d e f : Bool) : a = false ∨ (a = true ∧ b = false) ∨ (a = true ∧ b = true ∧ c = false) ∨ (a = true ∧ b = true ∧ c = true ∧ d = false) ∨ (a = true ∧ b = true ∧ c = true ∧ d = true ∧ e = false) ∨ (a = true ∧ b = true ∧ c = true ∧ d = true ∧ e = true ∧ f = false) ∨ (a = true ∧ b = true ∧ c = true ∧ d = true ∧ e = true ∧ f = true) := by cases a <;> cases b <;> cases c <;> cases d <;> cases e <;> cases f <;> simp
end Go.Proofs.Ytkboefmkfpnpjaa
namespace Go.Proofs.Ytkboefmkfpnpjaa
open Go Go.RowKit Go.Proofs

end Go.Proofs.Ytkboefmkfpnpjaa
namespace Go.Proofs.Ytkboefmkfpnpjaa
open Go Go.RowKit Go.Proofs

theorem newAt_eq {cs : List BL} {i : Nat} {x : BL} (h : cs[i]? = some x) : newAt cs i = (decide (0 ≤ bsumOf x) && !hasI (sumsOf (cs.take i)) (bsumOf x)) := by simp [newAt, h, hasI]
theorem linkAt_zero (cs : List BL) (pr : List Int) : linkAt cs pr 0 = true := by simp [linkAt]
theorem linkAt_eq {cs : List BL} {pr : List Int} {i : Nat} {x y : BL} {n : Int} (h : cs[i]? = some x) (hn : pr[i]? = some n) (hy : cs[n.toNat]? = some y) (h0 : 0 < i) : linkAt cs pr i = (inR n 0 ((i : Int) - 1) && (decide (bsumOf y = x.1.bf) && (decide (y.1.ht + 1 = x.1.ht) && decide (y.1.vw < x.1.vw)))) := by
  have : i ≠ 0 := by omega
  simp [linkAt, h, hn, hy, this]
theorem linkAt_out {cs : List BL} {pr : List Int} {i : Nat} {x : BL} {n : Int} (h : cs[i]? = some x) (hn : pr[i]? = some n) (h0 : 0 < i) (ho : inR n 0 ((i : Int) - 1) = false) : linkAt cs pr i = false := by
  have : i ≠ 0 := by omega
  simp [linkAt, h, hn, this, ho]
theorem newAt_ok {cs : List BL} {i : Nat} {x : BL} (h : cs[i]? = some x) (hn : newAt cs i = true) : x.1.okL x.2 = true := by
  rw [newAt_find h, Bool.and_eq_true] at hn; exact hn.1
theorem Tree.ok_h {t : Tree} (h : t.head = false) : t.ok = false := by simp [Tree.ok, h]
theorem Tree.ok_f {t : Tree} (h : t.first = false) : t.ok = false := by simp [Tree.ok, h]
theorem Tree.ok_n {t : Tree} {k : Nat} (hk : k < t.bs.length) (h : newAt t.bs k = false) : t.ok = false := by simp [Tree.ok, upTo_false hk h]
theorem Tree.ok_l {t : Tree} {k : Nat} (hk : k < t.bs.length) (h : linkAt t.bs t.pr k = false) : t.ok = false := by simp [Tree.ok, upTo_false hk h]
theorem Tree.ok_y {t : Tree} (h1 : t.head = true) (h2 : t.first = true) (h3 : upTo (newAt t.bs) t.bs.length = true) (h4 : upTo (linkAt t.bs t.pr) t.bs.length = true) : t.ok = true := by simp [Tree.ok, h1, h2, h3, h4]
def nl (t : Tree) (i : Nat) : Bool := newAt t.bs i && linkAt t.bs t.pr i
theorem sumsOf_at {cs : List BL} {n k : Nat} {y : BL} (h : cs[n]? = some y) (hn : n < k) : (sumsOf (cs.take k))[n]? = some (bsumOf y) := by
  simp [sumsOf, List.getElem?_take_of_lt hn, h]
theorem cell_of_block {w w' : World} {b : Nat} (h : w'.heap[b]? = w.heap[b]?) (i : Nat) : w'.cell? ⟨b, i, none⟩ = w.cell? ⟨b, i, none⟩ := by
  simp only [World.cell?, h]
end Go.Proofs.Ytkboefmkfpnpjaa
namespace Go.Proofs.Ytkboefmkfpnpjaa
open Go Go.RowKit Go.Proofs

end Go.Proofs.Ytkboefmkfpnpjaa
namespace Go.Proofs.Ytkboefmkfpnpjaa
open Go Go.RowKit Go.Proofs

theorem Tree.ok_parts {t : Tree} (h : t.ok = true) : t.head = true ∧ t.first = true ∧ upTo (newAt t.bs) t.bs.length = true ∧ upTo (linkAt t.bs t.pr) t.bs.length = true := by
  simpa [Tree.ok] using h
theorem Tree.head_parts {t : Tree} (h : t.head = true) : entsOk 1 t.base = true ∧ (1 ≤ t.bs.length ∧ t.bs.length ≤ 14) ∧ t.pr.length = t.bs.length ∧ t.pr.getD 0 0 = -1 := by
  simp only [Tree.head, Bool.and_eq_true, inR_iff, decide_eq_true_eq] at h
  exact ⟨h.1, by omega, h.2.2.1, h.2.2.2⟩
def findR (t : Tree) (sum : Int) : Int := if t.ok = true then findB t.bs sum else -1
theorem findB_neg {t : Tree} {sum : Int} (h : t.ok = true) (hs : sum < 0) : findB t.bs sum = -1 := by
  refine findB_none (upTo_iff.2 fun i hi => ?_)
  obtain ⟨x, hx⟩ := getElem?_some_of_lt hi
  have hn := newAt_ok hx (upTo_iff.1 (Tree.ok_parts h).2.2.1 i hi)
  have := (bsum_ge hn).1
  have hne : bsumOf x ≠ sum := by unfold bsumOf; omega
  simp only [hx]; simpa using hne
/-- Every block's number in Before is less. -/
theorem Tree.pr_lt {t : Tree} (h : t.ok = true) {i : Nat} {n : Int} (hn : t.pr[i]? = some n) : -1 ≤ n ∧ n < (i : Int) := by
  obtain ⟨h1, _, _, h4⟩ := Tree.ok_parts h
  obtain ⟨_, _, hl, h0⟩ := Tree.head_parts h1
  have hi : i < t.bs.length := by have := (List.getElem?_eq_some_iff.1 hn).1; omega
  by_cases hz : i = 0
  · subst hz
    rw [getD_of hn] at h0
    omega
  · have hlk := upTo_iff.1 h4 i hi
    obtain ⟨x, hx⟩ := getElem?_some_of_lt hi
    unfold linkAt at hlk
    simp only [hx, hn, hz, decide_false, Bool.false_or, Bool.and_eq_true, inR_iff] at hlk
    omega
/-- The way up from a block. -/
def climb (pr : List Int) : Nat → Int → List Int
  | 0, _ => []
  | f + 1, n => if n < 0 then [] else n :: climb pr f (pr.getD n.toNat (-1))
theorem climb_neg (pr : List Int) (f : Nat) {n : Int} (h : n < 0) : climb pr f n = [] := by cases f <;> simp [climb, h]
theorem climb_step {pr : List Int} {f : Nat} {n m : Int} (h : 0 ≤ n) (hm : pr[n.toNat]? = some m) : climb pr (f + 1) n = n :: climb pr f m := by
  have h2 : ¬ n < 0 := by omega
  simp [climb, h2, List.getD, hm]
theorem climb_le (pr : List Int) : ∀ (f : Nat) (n : Int), (climb pr f n).length ≤ f
  | 0, _ => by simp [climb]
  | f + 1, n => by
    unfold climb
    split
    · simp
    · have := climb_le pr f (pr.getD n.toNat (-1)); rw [List.length_cons]; omega
theorem own_empty (e lo : Nat) (w : World) (g : Nat) (hg : g = w.heap.size) (hlo : lo ≤ w.heap.size) : Own encI e 1 lo (w.alloc (.cells #[] e)) (.slice (some ⟨g, 0, none⟩) 0 0) [] := Own.lit hg hlo rfl rfl encI_length (Nat.zero_le _)
def pathB (t : Tree) (n : Int) : List Int := (climb t.pr t.bs.length n).reverse
def hasN (t : Tree) (n : Int) : Bool := inR n 0 ((t.bs.length : Int) - 1)
def pathR (t : Tree) (n : Int) : List Int := if (t.ok && hasN t n) = true then pathB t n else []
theorem pathR_yes {t : Tree} {n : Int} (h : t.ok = true) (h' : hasN t n = true) : pathR t n = pathB t n := by unfold pathR; rw [h, h']; rfl
theorem pathR_no1 {t : Tree} {n : Int} (h : t.ok = false) : pathR t n = [] := by unfold pathR; rw [h]; rfl
theorem pathR_no2 {t : Tree} {n : Int} (h : hasN t n = false) : pathR t n = [] := by unfold pathR; rw [h, Bool.and_false]; rfl
/-- append of a slice of the call's own. -/
theorem wpList_pushX {P : Program} {t e sz bytes : Nat} (F : AppFacts P t e sz bytes) {ops : Array Oper} {rest : List Oper} {o : Oper} {a : Act} {Q : Exit → Act → World → Prop} (hgd : o.guard = none) (s x : Operand)
    (ho : o.op = .call { callee := .builtin .append, args := #[s, x], argTypes := #[t, t] }) {α : Type} (enc : α → List Value) (he : ∀ x, (enc x).length = sz) (Wb : World) {lo lo2 : Nat} {w : World} (ys : List α) (l : List α) {v : Value} (hs : a.eval s = v)
    (hown : Own enc e sz lo w v l) (hE : Ext Wb w) (hlo : Wb.heap.size ≤ lo) (hlo' : lo ≤ w.heap.size) {g m c : Nat} (hx : a.eval x = .slice (some ⟨g, 0, none⟩) m c) (hm : m = ys.length) (hys : Own enc e sz lo2 w (.slice (some ⟨g, 0, none⟩) m c) ys)
    (h1 : ∀ u ∈ ys.flatMap enc, u.oneCell' = true) (hb : (l.length + ys.length) * bytes ≤ 140737488355328) (hb' : l.length + ys.length ≤ 9223372036854775807)
    (h : ∀ v' (z1 : Extd Wb), Own enc e sz lo z1.val v' (l ++ ys) → w.grownBy z1.val v.ownBlock → (v'.ownBlock = v.ownBlock ∨ v'.ownBlock = some w.heap.size) → wpList P ops Q rest (a.put o.dst v') z1.val) : wpList P ops Q (o :: rest) a w := by
  subst hm
  obtain ⟨i, z, hi, hz, hsize, hby, hzs⟩ := F.info
  have hown' : w.ownsRow lo e sz v l.length (l.flatMap enc) := hown
  have hys' : w.ownsRow lo2 e sz (.slice (some ⟨g, 0, none⟩) ys.length c) ys.length (ys.flatMap enc) := hys
  refine wpList_append_own_at _ hgd s x t ho lo e i z sz bytes F.und hi hz hsize hby hzs F.pos v l.length (l.flatMap enc) hs hown' ⟨g, 0, none⟩ ys.length c (ys.flatMap enc) hx (flatMap_length he ys) (fun j u hu => ?_) h1 (by simpa [maxLen] using hb') hb hlo' ?_
  · have e1 : (⟨g, 0, none⟩ : Addr).add j = ⟨g, j, none⟩ := by unfold Addr.add; split <;> simp_all
    rw [e1]
    have hj := (List.getElem?_eq_some_iff.1 hu).1
    rw [flatMap_length he] at hj
    exact (hys'.cellAt j (by omega)).trans hu
  · intro v' w1 hown1 hg1 _ hblk
    refine h v' ⟨w1, hE.grown hg1 fun k hk => Nat.le_trans hlo (World.ownsRow.lt hown' k hk).1⟩ ?_ hg1 hblk
    show w1.ownsRow _ _ _ _ _ _
    simpa [Own] using hown1
theorem Own.ne {α : Type} {enc : α → List Value} {e sz lo : Nat} {w : World} {v : Value} {l : List α} (h : Own enc e sz lo w v l) (hne : l ≠ []) : ∃ g c, v = .slice (some ⟨g, 0, none⟩) l.length c := by
  rcases h.2 with ⟨_, hn⟩ | ⟨g, cap, cur, hv, _⟩
  · exact absurd (List.eq_nil_of_length_eq_zero hn) hne
  · exact ⟨g, cap, hv⟩
end Go.Proofs.Ytkboefmkfpnpjaa
namespace Go.Proofs.Ytkboefmkfpnpjaa
open Go Go.RowKit

theorem rootOf_in {s : List Ent} (h : entsOk 1 s = true) : 0 ≤ rootOf s ∧ rootOf s ≤ 1000002 := by
  rw [rootOf_yes h]
  unfold rootV
  have hl := treeRow_length (valsOf s) 5 (by omega)
  obtain ⟨x, hx⟩ := getElem?_some_of_lt (l := treeRow (valsOf s) 5) (k := 0) (by rw [hl]; decide)
  have := treeRow_in (valsOf s) 5 x (List.mem_of_getElem? hx)
  rw [List.getD_eq_getElem?_getD, hx]
  simp only [Option.getD_some]; omega
theorem firstB_ok {s : List Ent} (h : entsOk 1 s = true) : (firstB s).okL [] = true := by
  rw [firstB_yes h]
  have := rootOf_in h
  simp only [Blk.okL, Bool.and_eq_true, inR_iff]
  exact ⟨by omega, by omega, by omega, by omega, by omega, rfl⟩
def treeOne (s : List Ent) : Tree := ⟨s, [(firstB s, [])], [-1]⟩
theorem treeOne_ok {s : List Ent} (h : entsOk 1 s = true) : (treeOne s).ok = true := by
  refine Tree.ok_y ?_ ?_ ?_ ?_
  · simp [Tree.head, treeOne, h, inR]
  · simp [Tree.first, treeOne, sameF]
  · refine upTo_iff.2 fun k hk => ?_
    obtain rfl : k = 0 := by simp [treeOne] at hk; omega
    rw [newAt_eq (x := (firstB s, [])) (by rfl)]
    have := bsum_ok (firstB s) []
    rw [firstB_ok h] at this
    show (decide (0 ≤ bsum (firstB s) []) && _) = true
    rw [this]; rfl
  · refine upTo_iff.2 fun k hk => ?_
    obtain rfl : k = 0 := by simp [treeOne] at hk; omega
    exact linkAt_zero _ _
theorem newAt_take {cs : List BL} {n i : Nat} (hi : i < n) : newAt (cs.take n) i = newAt cs i := by
  unfold newAt
  rw [List.getElem?_take_of_lt hi, List.take_take, Nat.min_eq_left (by omega)]
theorem linkAt_take {cs : List BL} {pr : List Int} {n i : Nat} (hi : i < n) (h : linkAt cs pr i = true) : linkAt (cs.take n) (pr.take n) i = true := by
  unfold linkAt at *
  rw [List.getElem?_take_of_lt hi, List.getElem?_take_of_lt hi]
  by_cases h0 : i = 0
  · simp [h0]
  · simp only [h0, decide_false, Bool.false_or] at *
    rcases hx : cs[i]? with _ | x
    · simp
    · rcases hn : pr[i]? with _ | m
      · simp
      · simp only [hx, hn] at h
        simp only [Bool.and_eq_true, inR_iff] at h ⊢
        refine ⟨h.1, ?_⟩
        rw [List.getElem?_take_of_lt (by omega)]
        exact h.2
/-- The first blocks of a valid tree are a valid tree. -/
theorem Tree.take_ok {t : Tree} (h : t.ok = true) {n : Nat} (h0 : 1 ≤ n) (hn : n ≤ t.bs.length) : (Tree.mk t.base (t.bs.take n) (t.pr.take n)).ok = true := by
  obtain ⟨h1, h2, h3, h4⟩ := Tree.ok_parts h
  obtain ⟨a1, a2, a3, a4⟩ := Tree.head_parts h1
  refine Tree.ok_y ?_ ?_ ?_ ?_
  · simp only [Tree.head, a1, Bool.true_and, Bool.and_eq_true, inR_iff, decide_eq_true_eq, List.length_take]
    refine ⟨by omega, by omega, ?_⟩
    rw [List.getD_eq_getElem?_getD, List.getElem?_take_of_lt (by omega), ← List.getD_eq_getElem?_getD]
    exact a4
  · simp only [Tree.first, List.getElem?_take_of_lt (show 0 < n by omega)]
    exact h2
  · refine upTo_iff.2 fun k hk => ?_
    rw [List.length_take] at hk
    rw [newAt_take (by omega)]
    exact upTo_iff.1 h3 k (by omega)
  · refine upTo_iff.2 fun k hk => ?_
    rw [List.length_take] at hk
    exact linkAt_take (by omega) (upTo_iff.1 h4 k (by omega))
theorem Tree.none_ok (s : List Ent) : (Tree.mk s [] []).ok = false := by
  refine Tree.ok_h ?_
  simp [Tree.head, inR]
end Go.Proofs.Ytkboefmkfpnpjaa
namespace Go.Proofs.Ytkboefmkfpnpjaa
open Go Go.RowKit Go.Proofs

set_option maxRecDepth 100000 in
theorem open_any (bs : List Int) (v : Value) (w : World) (h : SL (RF encU) 1 w v bs) (hb : ∀ b ∈ bs, 0 ≤ b ∧ b ≤ 255) :
    Calls Try.prog 59 #[v] w fun e w' => ∃ rb, e = .returned (.pointer (some ⟨rb, 0, none⟩)) ∧ Up w w' ∧ Rd w w' rb 0 := by
  have hs := h
  obtain ⟨p, c, rfl, hl, hc⟩ := h.openc
  have Hs := Lib.hid hs; clear h hs
  by_cases hlen : 2000 < bs.length
  · obtain ⟨p', c', e', _, hcc⟩ := Hs.out.open
    cases e'
    obtain ⟨x, hx⟩ := getElem?_some_of_lt (show 0 < bs.length by omega)
    obtain ⟨b, off, rfl, _, _⟩ := hcc 0 x hx
    clear hcc hx
    have h2 : (2000 : Int) ≤ (c : Int) := by omega
    go_enter Try.func59, Try.ntmps59
    go_wp2_with fail
    go_ret
    have ht : (bs.take 2000).length = 2000 := by rw [List.length_take]; omega
    have hst := SL.take Hs.out (k := 2000) (by omega)
    refine ⟨w.heap.size, rfl, (.of (by repeat (first | (with_reducible exact Ext.refl _) | (with_reducible refine Ext.up ?_ _) | (with_reducible refine Ext.alloc ?_ _) | (with_reducible refine Ext.drew ?_) | (with_reducible refine Ext.setRow ?_ (by first | exact LeS.le | exact LeS.add _ | (simp; done) | (simp; omega)) _) | (with_reducible refine Ext.setCell ?_ (by first | exact LeS.le | exact LeS.add _ | (simp; done) | (simp; omega)) _)))), (by repeat (first | (with_reducible exact Ext.refl _) | (with_reducible refine Ext.up ?_ _) | (with_reducible refine Ext.alloc ?_ _) | (with_reducible refine Ext.drew ?_) | (with_reducible refine Ext.setRow ?_ (by first | exact LeS.le | exact LeS.add _ | (simp; done) | (simp; omega)) _) | (with_reducible refine Ext.setCell ?_ (by first | exact LeS.le | exact LeS.add _ | (simp; done) | (simp; omega)) _))), Nat.le_refl _, _, bs.take 2000, 0, _, heap_alloc_new w _, hst, by omega, fun b hbm => hb b (List.mem_of_mem_take hbm), by omega, by omega⟩
  · go_enter Try.func59, Try.ntmps59
    go_wp2_with fail
    go_ret
    refine ⟨w.heap.size, rfl, (.of (by repeat (first | (with_reducible exact Ext.refl _) | (with_reducible refine Ext.up ?_ _) | (with_reducible refine Ext.alloc ?_ _) | (with_reducible refine Ext.drew ?_) | (with_reducible refine Ext.setRow ?_ (by first | exact LeS.le | exact LeS.add _ | (simp; done) | (simp; omega)) _) | (with_reducible refine Ext.setCell ?_ (by first | exact LeS.le | exact LeS.add _ | (simp; done) | (simp; omega)) _)))), (by repeat (first | (with_reducible exact Ext.refl _) | (with_reducible refine Ext.up ?_ _) | (with_reducible refine Ext.alloc ?_ _) | (with_reducible refine Ext.drew ?_) | (with_reducible refine Ext.setRow ?_ (by first | exact LeS.le | exact LeS.add _ | (simp; done) | (simp; omega)) _) | (with_reducible refine Ext.setCell ?_ (by first | exact LeS.le | exact LeS.add _ | (simp; done) | (simp; omega)) _))), Nat.le_refl _, _, bs, 0, _, heap_alloc_new w _, Hs.out, by omega, hb, by omega, by omega⟩
set_option maxRecDepth 100000 in
theorem drawConflict_any (bs : List Int) (v : Value) (w : World) (h : SL (RF encU) 1 w v bs) (hb : ∀ b ∈ bs, 0 ≤ b ∧ b ≤ 255) :
    Calls Try.prog 14 #[v] w fun e w' => ∃ x y : Actn, e = .returned (.tuple #[.agg #[.int .i64 x.kind, .int .i64 x.src, .int .i64 x.dst, .int .i64 x.amt], .agg #[.int .i64 y.kind, .int .i64 y.src, .int .i64 y.dst, .int .i64 y.amt]]) ∧ Up w w' := by
  have H := Lib.hid h; clear h
  go_enter Try.func14, Try.ntmps14
  go_wp2_with fail
  refine (open_any bs v _ (H.out.up (by repeat (first | (with_reducible exact Ext.refl _) | (with_reducible refine Ext.up ?_ _) | (with_reducible refine Ext.alloc ?_ _) | (with_reducible refine Ext.drew ?_) | (with_reducible refine Ext.setRow ?_ (by first | exact LeS.le | exact LeS.add _ | (simp; done) | (simp; omega)) _) | (with_reducible refine Ext.setCell ?_ (by first | exact LeS.le | exact LeS.add _ | (simp; done) | (simp; omega)) _)))) hb).mono ?_; rintro e w' ⟨rb, rfl, ⟨z0, rfl⟩, hr⟩
  have H0 := Lib.hid hr
  have hL : LtS rb z0.val := ⟨hr.lt⟩
  have hN0 : NeS w.heap.size rb := ⟨by have := hr.old; simp at this; omega⟩
  have hN1 : NeS (w.heap.size + 1) rb := ⟨by have := hr.old; simp at this; omega⟩
  have Hold := Lib.hid hr.old
  clear hr
  go_wp2_with fail
  refine (action_any _ _ rb _ 14 H0.out (by omega) (by omega) (by omega)).mono ?_; rintro e w' ⟨x, rfl, _, ⟨z1, rfl⟩, hr⟩
  have H1 := Lib.hid hr; clear hr
  go_wp2_with fail
  refine (action_any _ _ rb _ 14 H1.out (by omega) (by omega) (by omega)).mono ?_; rintro e w' ⟨y, rfl, _, ⟨z2, rfl⟩, hr⟩
  have H2 := Lib.hid hr; clear hr
  go_wp2_with fail
  have E : Ext w z2.val := Ext.upR (Ext.upR (show Ext w z0.val from (by repeat (first | (with_reducible exact Ext.refl _) | (with_reducible refine Ext.up ?_ _) | (with_reducible refine Ext.alloc ?_ _) | (with_reducible refine Ext.drew ?_) | (with_reducible refine Ext.setRow ?_ (by first | exact LeS.le | exact LeS.add _ | (simp; done) | (simp; omega)) _) | (with_reducible refine Ext.setCell ?_ (by first | exact LeS.le | exact LeS.add _ | (simp; done) | (simp; omega)) _)))) (by have := Hold.out; simp at this; omega) z1) (by have := Hold.out; simp at this; omega) z2
  have HE := Lib.hid E; clear E
  refine bodyPost_ret (v := .tuple #[.agg #[.int .i64 x.kind, .int .i64 x.src, .int .i64 x.dst, .int .i64 x.amt], .agg #[.int .i64 y.kind, .int .i64 y.src, .int .i64 y.dst, .int .i64 y.amt]]) (by simp [results, Try.results14, go_sem]) rfl ?_
  refine ⟨x, y, rfl, .of ?_⟩
  repeat (first | (with_reducible exact HE.out) | (with_reducible refine Ext.setCell ?_ (by first | exact Nat.le_refl _ | exact Nat.le_succ _) _))
theorem alive_any (w : World) : Calls Try.prog 18 #[] w fun e w' => e = .returned (.bool true) ∧ Up w w' := by
  have hs : sumOf 0 [] = 17 := rfl
  have k := fun a c w => sumOf_any 0 [] (.slice a 0 c) w (SL.nil _ _ _ _ _)
  rw [hs] at k
  go_enter Try.func18, Try.ntmps18
  go_wp2_with (go_at_call 67; refine (k _ _ _).mono ?_; rintro e w' ⟨rfl, z, rfl⟩)
  go_ret
  exact ⟨rfl, (.of (by repeat (first | (with_reducible exact Ext.refl _) | (with_reducible refine Ext.up ?_ _) | (with_reducible refine Ext.alloc ?_ _) | (with_reducible refine Ext.drew ?_) | (with_reducible refine Ext.setRow ?_ (by first | exact LeS.le | exact LeS.add _ | (simp; done) | (simp; omega)) _) | (with_reducible refine Ext.setCell ?_ (by first | exact LeS.le | exact LeS.add _ | (simp; done) | (simp; omega)) _))))⟩
theorem conf_self (x : Actn) : conflict x x = x.ok := by
  have h : common x.wk x.wk = true := by
    unfold Actn.wk
    split
    · simp [common]
    · split <;> simp [common]
  unfold conflict conf
  rw [h, Bool.true_or, Bool.and_true, Bool.and_self]
end Go.Proofs.Ytkboefmkfpnpjaa
namespace Go.Proofs.Ytkboefmkfpnpjaa
open Go Go.RowKit Go.Proofs

theorem results_cell_row2 {P : Program} {fn : Func} {p q : Tmp} {ty : TypeId} (h : fn.results = #[.cell p ty, .tmp q]) (tmps : Array Value) (w : World) (g : Nat) (t : TypeId) (cs : Array Value) (fr : Nat × Nat) (d : TypeDesc) {v : Value}
    (hp : tmps.getD p undef = .pointer (some ⟨g, 0, none⟩)) (hq : tmps.getD q undef = v) (hg : w.heap[g]? = some (.cells cs t fr))
    (hu : P.underlying ty = some d) (hd : (match d with | .struct _ | .array _ _ => true | _ => false) = true) (hi : (P.info? ty).map (·.size) = some cs.size) :
    (results fn tmps).run P w = .ok (.tuple #[.agg cs, v]) w := by
  have hp' : tmps[p]?.getD undef = .pointer (some ⟨g, 0, none⟩) := by simpa using hp
  have hq' : tmps[q]?.getD undef = v := by simpa using hq
  simp [results, h, hp', hq', asAddr, run_loadVar_row w g t ty cs fr d hg hu hd hi]
set_option maxRecDepth 100000 in
set_option maxHeartbeats 2000000 in
theorem runAll_nil (v : List Int) (hv : v.length = 32) (p : Option Addr) (c : Nat) (w : World) :
    Calls Try.prog 70 #[.agg (vA v), .slice p 0 c] w fun e w' => e = .returned (.tuple #[.agg (vA v), .slice none 0 0]) ∧ Up w w' := by
  go_enter Try.func70, Try.ntmps70
  go_wp2_with fail
  go_loopw [6, 14] (fun s6 s14 wr => s14 = .int .i64 0 ∧ s6 = .slice none 0 0 ∧ Up w wr ∧ Row 99 wr w.heap.size v ∧ Row 99 wr (w.heap.size + 1) zeros) (fun _ _ _ => 0)
  case atStart => exact ⟨rfl, rfl, (.of (by repeat (first | (with_reducible exact Ext.refl _) | (with_reducible refine Ext.up ?_ _) | (with_reducible refine Ext.alloc ?_ _) | (with_reducible refine Ext.drew ?_) | (with_reducible refine Ext.setRow ?_ (by first | exact LeS.le | exact LeS.add _ | (simp; done) | (simp; omega)) _) | (with_reducible refine Ext.setCell ?_ (by first | exact LeS.le | exact LeS.add _ | (simp; done) | (simp; omega)) _)))), Row.of_eq (heap_alloc2_old _ _ _) rfl, Row.of_eq (heap_alloc2_new _ _ _) vA_zeros.symm⟩
  case round =>
    obtain ⟨rfl, rfl, ⟨z, rfl⟩, r0, r1⟩ := hrel
    have R0 := Lib.hid r0; have R1 := Lib.hid r1
    clear r0 r1
    go_wp2_with (first | (refine wpList_load_row rfl _ _ rfl _ rfl _ _ _ _ R0.out.eq Try.underlying99 rfl (by rw [vA_size, hv]; exact Try.sVals) ?_) | (refine wpList_store_row rfl _ _ _ rfl _ _ rfl rfl _ _ R1.out.eq (by rw [vA_size, hv]; exact Try.sVals) (by rw [vA_size, vA_size, hv, zeros_length]) (vA_one _) ?_))
    refine bodyPost_ret (results_cell_row2 (p := 4) (q := 5) (by kernel_rfl) _ _ (w.heap.size + 1) _ (vA v) (0, 0) _ rfl rfl (R1.out.setRow _).eq Try.underlying99 rfl (by rw [vA_size, hv]; exact Try.sVals)) rfl ⟨rfl, (.of (by repeat (first | exact Ext.refl _ | refine Ext.up ?_ _ | refine Ext.alloc ?_ _ | refine Ext.drew ?_ | refine Ext.setRow ?_ (by first | (dsimp only; omega) | exact LeS.le | exact LeS.add _ | (simp; done) | (simp; omega)) _ | refine Ext.setCell ?_ (by first | (dsimp only; omega) | exact LeS.le | exact LeS.add _ | (simp; done) | (simp; omega)) _)))⟩
set_option maxRecDepth 100000 in
set_option maxHeartbeats 2000000 in
theorem iRunSerial_nil (s : List Ent) (v : Value) (p : Option Addr) (c : Nat) (w : World) (h : SL (RF Ent.enc) 2 w v s) (hok : entsOk 1 s = true) :
    Calls Try.prog 19 #[v, .slice p 0 c] w fun e w' => ∃ v', e = .returned (.tuple #[v', .slice none 0 0]) ∧ Up w w' ∧ Own Ent.enc 31 2 w.heap.size w' v' s := by
  have H := Lib.hid h
  have kv := fun w h => iStoreValid_any s v w h
  simp only [hok] at kv
  have ka := fun w => iActionsValid_any [] (.slice p 0 c) w (SL.nil _ _ _ _ _)
  simp only [show actsOk [] = true from rfl] at ka
  have he := storeOf_valsOf hok
  have Hok := Lib.hid hok
  have tok : True := trivial
  clear h hok
  go_enter Try.func19, Try.ntmps19
  go_wp2_with (first | (go_at_call 68; refine (kv _ H.out).mono ?_; rintro e w' ⟨rfl, z1, rfl⟩) | (go_at_call 69; refine (ka _).mono ?_; rintro e w' ⟨rfl, z2, rfl⟩) | (go_at_call 71; refine (valuesOf_any 1 s _ _ (H.out.up (by repeat (first | (with_reducible exact Ext.refl _) | (with_reducible refine Ext.up ?_ _) | (with_reducible refine Ext.alloc ?_ _) | (with_reducible refine Ext.drew ?_) | (with_reducible refine Ext.setRow ?_ (by first | exact LeS.le | exact LeS.add _ | (simp; done) | (simp; omega)) _) | (with_reducible refine Ext.setCell ?_ (by first | exact LeS.le | exact LeS.add _ | (simp; done) | (simp; omega)) _)))) Hok.out).mono ?_; rintro e w' ⟨rfl, z3, rfl⟩) | (go_at_call 70; refine (runAll_nil (valsOf s) (valsOf_length s) p c _).mono ?_; rintro e w' ⟨rfl, z4, rfl⟩) | (have _t := tok; refine wpList_store_new rfl _ _ _ rfl rfl rfl rfl (by rw [valsOf_length]; exact Try.sVals) (by rw [valsOf_length]; rfl) ?_; intro z5 r5; clear _t tok; have R5 := Lib.hid r5; clear r5) | (refine wpList_load_row rfl _ _ rfl _ rfl _ _ _ _ R5.out.eq Try.underlying99 rfl (by rw [vA_size, valsOf_length]; exact Try.sVals) ?_) | (go_at_call 72; refine (store_any _ _ (valsOf_length s)).mono ?_; rintro e w' ⟨v', rfl, ⟨z6, rfl⟩, ho⟩; have HO := Lib.hid ho; clear ho))
  refine bodyPost_ret (v := .tuple #[v', .slice none 0 0]) (by simp [results, Try.results19, go_sem]) rfl ?_
  exact ⟨_, rfl, (.of (by repeat (first | (with_reducible exact Ext.refl _) | (with_reducible refine Ext.up ?_ _) | (with_reducible refine Ext.alloc ?_ _) | (with_reducible refine Ext.drew ?_) | (with_reducible refine Ext.setRow ?_ (by first | exact LeS.le | exact LeS.add _ | (simp; done) | (simp; omega)) _) | (with_reducible refine Ext.setCell ?_ (by first | exact LeS.le | exact LeS.add _ | (simp; done) | (simp; omega)) _)))), by have := HO.out; rw [he] at this; exact this.lo LeS.le⟩
end Go.Proofs.Ytkboefmkfpnpjaa
