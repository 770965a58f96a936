/- Walks: FnExactOrderFits: orders of actions. Walks: FnExactBlockSum: sums of blocks. Plain laws: the root of a store. Plain laws: trees of blocks, as lists; slices of blocks in memory. Walks: the reader that draws: pick, odd, keys, values, actions. -/
import Derived.Test.YtnknamddonjnjaaGEoVTop06
import Derived.Test.YtnknamddonjnjaaGEoVTop01
import Derived.StillTailTactics
import Derived.Test.YtnknamddonjnjaaGEoVTop04
import Derived.Test.YtnknamddonjnjaaGEoVTop03
import Derived.Test.YtnknamddonjnjaaGEoVTop00
import Derived.Test.YtnknamddonjnjaaGEoVTop02
set_option linter.unusedSimpArgs false
set_option linter.unusedVariables false
namespace Go.Proofs.Ytnknamddonjnjaa
open Go Go.RowKit Go.Proofs

/-- x is among l's. -/
def hasI (l : List Int) (x : Int) : Bool := l.contains x
theorem hasI_iff {l : List Int} {x : Int} : hasI l x = true ↔ x ∈ l := by simp [hasI]
theorem hasI_not {l : List Int} {x : Int} : hasI l x = false ↔ x ∉ l := by rw [← hasI_iff]; simp
def cfAt (l : List Actn) (m n : Int) : Bool := match l[m.toNat]?, l[n.toNat]? with
  | some x, some y => conf x y
  | _, _ => false
def pairOk (l : List Actn) (o : List Int) (k j : Nat) : Bool := match o[j]?, o[k]? with
  | some m, some n => decide (m ≠ n) && !(decide (n < m) && cfAt l m n)
  | _, _ => true
def ordAt (l : List Actn) (o : List Int) (k : Nat) : Bool := match o[k]? with
  | some n => inR n 0 ((l.length : Int) - 1) && upTo (pairOk l o k) k
  | none => true
def ordOk (l : List Actn) (o : List Int) : Bool := actsOk l && (decide (o.length = l.length) && upTo (ordAt l o) o.length)
theorem pairOk_eq {l : List Actn} {o : List Int} {k j : Nat} {m n : Int} (hm : o[j]? = some m) (hn : o[k]? = some n) : pairOk l o k j = (decide (m ≠ n) && !(decide (n < m) && cfAt l m n)) := by simp [pairOk, hm, hn]
theorem cfAt_eq {l : List Actn} {m n : Int} {x y : Actn} (hx : l[m.toNat]? = some x) (hy : l[n.toNat]? = some y) : cfAt l m n = conf x y := by simp [cfAt, hx, hy]
theorem ordAt_eq {l : List Actn} {o : List Int} {k : Nat} {n : Int} (hn : o[k]? = some n) : ordAt l o k = (inR n 0 ((l.length : Int) - 1) && upTo (pairOk l o k) k) := by simp [ordAt, hn]
theorem ordAt_in {l : List Actn} {o : List Int} {k j : Nat} {m : Int} (h : upTo (ordAt l o) k = true) (hj : j < k) (hm : o[j]? = some m) : 0 ≤ m ∧ m < l.length := by
  have := upTo_iff.1 h j hj
  rw [ordAt_eq hm, Bool.and_eq_true, inR_iff] at this
  omega
theorem pair_same {l : List Actn} {o : List Int} {k : Nat} {n : Int} (hn : o[k]? = some n) (h : hasI (o.take k) n = true) : upTo (pairOk l o k) k = false := by
  have hm : n ∈ o.take k := hasI_iff.1 h
  obtain ⟨j, hj⟩ := List.getElem?_of_mem hm
  have hjk : j < k := by have := (List.getElem?_eq_some_iff.1 hj).1; simp at this; omega
  rw [List.getElem?_take_of_lt hjk] at hj
  exact upTo_false hjk (by rw [pairOk_eq hj hn]; simp)
theorem ne_of_contains {o : List Int} {k j : Nat} {m n : Int} (h : hasI (o.take k) n = false) (hj : j < k) (hm : o[j]? = some m) : m ≠ n := by
  rintro rfl
  have : m ∈ o.take k := List.mem_of_getElem? (i := j) (by rw [List.getElem?_take_of_lt hj]; exact hm)
  exact hasI_not.1 h this
theorem actsOk_at {l : List Actn} (h : actsOk l = true) {i : Nat} {x : Actn} (hx : l[i]? = some x) : x.ok = true := by
  simp only [actsOk, Bool.and_eq_true, List.all_eq_true] at h
  exact h.2 x (List.mem_of_getElem? hx)
theorem actsOk_len {l : List Actn} (h : actsOk l = true) : l.length ≤ 10 := by
  simp only [actsOk, Bool.and_eq_true, decide_eq_true_eq] at h
  omega
theorem acell {w : World} {l : List Actn} {a : Option Addr} (hc : ∀ (k : Nat) x, l[k]? = some x → ∃ b off, a = some ⟨b, off, none⟩ ∧ LtS b w ∧ ∀ j u, (Actn.enc x)[j]? = some u → w.cell? ⟨b, off + k * 4 + j, none⟩ = some u) {b off : Nat} (ha : a = some ⟨b, off, none⟩) {k : Nat} {x : Actn} (hx : l[k]? = some x) :
    w.cell? ⟨b, off + k * 4, none⟩ = some (.int .i64 x.kind) ∧ w.cell? ⟨b, off + k * 4 + 1, none⟩ = some (.int .i64 x.src) ∧ w.cell? ⟨b, off + k * 4 + 2, none⟩ = some (.int .i64 x.dst) ∧ w.cell? ⟨b, off + k * 4 + 3, none⟩ = some (.int .i64 x.amt) := by
  obtain ⟨b', off', e, _, hcc⟩ := hc k x hx
  rw [ha] at e
  simp only [Option.some.injEq, Addr.mk.injEq, and_true] at e
  obtain ⟨rfl, rfl⟩ := e
  exact ⟨hcc 0 _ rfl, hcc 1 _ rfl, hcc 2 _ rfl, hcc 3 _ rfl⟩
end Go.Proofs.Ytnknamddonjnjaa
namespace Go.Proofs.Ytnknamddonjnjaa
open Go Go.RowKit Go.Proofs

def Blk.head (b : Blk) (n : Nat) : List Int := [b.bf, b.ht, b.vw, (n : Int)]
def Blk.nums (b : Blk) (l : List Actn) : List Int := (b.head l.length ++ aNums l) ++ [b.rt, b.ef]
theorem Blk.nums_summed {b : Blk} {l : List Actn} (h : b.okL l = true) : summed (b.nums l) = true := by
  simp only [Blk.okL, Bool.and_eq_true, inR_iff] at h
  obtain ⟨h1, h2, h3, h4, h5, h6⟩ := h
  have hl := actsOk_len h6
  refine summed_append (summed_append (summed_iff.2 ?_) (aNums_summed fun x hx => ?_)) (summed_iff.2 ?_)
  · intro n hn; simp [Blk.head] at hn; omega
  · obtain ⟨i, hi⟩ := List.getElem?_of_mem hx; exact actsOk_at h6 hi
  · intro n hn; simp at hn; omega
def bsum (b : Blk) (l : List Actn) : Int := if b.okL l = true then sumL 22 (b.nums l) else -1
theorem bsum_no {b : Blk} {l : List Actn} (h : b.okL l = false) : bsum b l = -1 := by unfold bsum; rw [h]; rfl
theorem bsum_yes {b : Blk} {l : List Actn} (h : b.okL l = true) : bsum b l = sumL 22 (b.nums l) := by unfold bsum; rw [h]; rfl
theorem Blk.okL_acts {b : Blk} {l : List Actn} (h : b.okL l = true) : actsOk l = true := by
  simp only [Blk.okL, Bool.and_eq_true] at h; exact h.2.2.2.2.2
end Go.Proofs.Ytnknamddonjnjaa
namespace Go.Proofs.Ytnknamddonjnjaa
open Go Go.RowKit

def leafOf (key v : Int) : Int := sumL 18 [key, v]
def nodeOf (a b : Int) : Int := sumL 19 [a, b]
/-- The first k leaves. -/
def leafTo (v : List Int) : Nat → List Int
  | 0 => []
  | k + 1 => leafTo v k ++ [leafOf (k : Int) (v.getD k 0)]
theorem leafTo_length (v : List Int) : ∀ k, (leafTo v k).length = k
  | 0 => rfl
  | k + 1 => by simp [leafTo, leafTo_length v k]
/-- The first k sums of the level above. -/
def upTo2 (row : List Int) : Nat → List Int
  | 0 => []
  | k + 1 => upTo2 row k ++ [nodeOf (row.getD (2 * k) 0) (row.getD (2 * k + 1) 0)]
theorem upTo2_length (row : List Int) : ∀ k, (upTo2 row k).length = k
  | 0 => rfl
  | k + 1 => by simp [upTo2, upTo2_length row k]
def lvlUp (row : List Int) : List Int := upTo2 row (row.length / 2)
theorem lvlUp_length (row : List Int) : (lvlUp row).length = row.length / 2 := upTo2_length _ _
/-- Level n of the tree. -/
def treeRow (v : List Int) : Nat → List Int
  | 0 => leafTo v 32
  | n + 1 => lvlUp (treeRow v n)
theorem treeRow_length (v : List Int) : ∀ n, n ≤ 5 → (treeRow v n).length = 32 / 2 ^ n
  | 0, _ => leafTo_length v 32
  | n + 1, h => by
    rw [treeRow, lvlUp_length, treeRow_length v n (by omega), Nat.div_div_eq_div_mul, Nat.pow_succ]
theorem pow_even {n : Nat} (h : n < 5) : 32 / 2 ^ n = 2 * (32 / 2 ^ n / 2) := by
  have : n = 0 ∨ n = 1 ∨ n = 2 ∨ n = 3 ∨ n = 4 := by omega
  rcases this with rfl | rfl | rfl | rfl | rfl <;> rfl
theorem treeRow_even (v : List Int) {n : Nat} (h : n < 5) : (treeRow v n).length = 2 * ((treeRow v n).length / 2) := by
  rw [treeRow_length v n (by omega)]; exact pow_even h
theorem leafOf_in (key v : Int) : 0 ≤ leafOf key v ∧ leafOf key v < 1000003 := sumL_in (by decide) (by decide) _
theorem nodeOf_in (a b : Int) : 0 ≤ nodeOf a b ∧ nodeOf a b < 1000003 := sumL_in (by decide) (by decide) _
theorem leafTo_in (v : List Int) : ∀ k, ∀ x ∈ leafTo v k, 0 ≤ x ∧ x < 1000003
  | 0 => by simp [leafTo]
  | k + 1 => by
    intro x hx
    rw [leafTo, List.mem_append, List.mem_singleton] at hx
    rcases hx with hx | rfl
    · exact leafTo_in v k x hx
    · exact leafOf_in _ _
theorem upTo2_in (row : List Int) : ∀ k, ∀ x ∈ upTo2 row k, 0 ≤ x ∧ x < 1000003
  | 0 => by simp [upTo2]
  | k + 1 => by
    intro x hx
    rw [upTo2, List.mem_append, List.mem_singleton] at hx
    rcases hx with hx | rfl
    · exact upTo2_in row k x hx
    · exact nodeOf_in _ _
theorem treeRow_in (v : List Int) (n : Nat) : ∀ x ∈ treeRow v n, 0 ≤ x ∧ x < 1000003 := by
  cases n with
  | zero => exact leafTo_in v 32
  | succ n => exact upTo2_in _ _
def rootV (v : List Int) : Int := (treeRow v 5).getD 0 0
def rootOf (s : List Ent) : Int := if entsOk 1 s = true then rootV (valsOf s) else -1
theorem rootOf_no {s : List Ent} (h : entsOk 1 s = false) : rootOf s = -1 := by unfold rootOf; rw [h]; rfl
theorem rootOf_yes {s : List Ent} (h : entsOk 1 s = true) : rootOf s = rootV (valsOf s) := by unfold rootOf; rw [h]; rfl
theorem getD_of {l : List Int} {k : Nat} {x : Int} (h : l[k]? = some x) : l.getD k 0 = x := by simp [List.getD, h]
theorem summed_two {a b : Int} (ha : 0 ≤ a ∧ a ≤ 2000000) (hb : 0 ≤ b ∧ b ≤ 2000000) : summed [a, b] = true := by
  rw [summed_iff]; intro n hn; simp at hn; rcases hn with rfl | rfl; exact ha; exact hb
end Go.Proofs.Ytnknamddonjnjaa
namespace Go.Proofs.Ytnknamddonjnjaa
open Go Go.RowKit

/-! ### Slices of blocks -/
structure TB where
  b : Blk
  v : Value
  l : List Actn
def TB.enc (x : TB) : List Value := [.int .i64 x.b.bf, .int .i64 x.b.ht, .int .i64 x.b.vw, x.v, .int .i64 x.b.rt, .int .i64 x.b.ef]
theorem TB.enc_length (x : TB) : x.enc.length = 6 := rfl
abbrev BL := Blk × List Actn
def TB.core (x : TB) : BL := (x.b, x.l)
def SB (w : World) (v : Value) (cs : List BL) : Prop := ∃ bs : List TB, cs = bs.map TB.core ∧ SL (RF TB.enc) 6 w v bs ∧ ∀ x ∈ bs, SL (RF Actn.enc) 4 w x.v x.l
theorem SB.up {w w' : World} {v : Value} {cs : List BL} (h : SB w v cs) (hE : Ext w w') : SB w' v cs := by
  obtain ⟨bs, h1, h2, h3⟩ := h
  exact ⟨bs, h1, h2.up hE, fun x hx => (h3 x hx).up hE⟩
theorem SB.open {w : World} {v : Value} {cs : List BL} (h : SB w v cs) : ∃ a cap, v = .slice a cs.length cap ∧ cs.length ≤ 9223372036854775807 ∧ cs.length ≤ cap ∧ ∀ (k : Nat) x, cs[k]? = some x → ∃ b off p c, a = some ⟨b, off, none⟩ ∧ LtS b w ∧
    w.cell? ⟨b, off + k * 6, none⟩ = some (.int .i64 x.1.bf) ∧ w.cell? ⟨b, off + k * 6 + 1, none⟩ = some (.int .i64 x.1.ht) ∧ w.cell? ⟨b, off + k * 6 + 2, none⟩ = some (.int .i64 x.1.vw) ∧
    w.cell? ⟨b, off + k * 6 + 3, none⟩ = some (.slice p x.2.length c) ∧ w.cell? ⟨b, off + k * 6 + 4, none⟩ = some (.int .i64 x.1.rt) ∧ w.cell? ⟨b, off + k * 6 + 5, none⟩ = some (.int .i64 x.1.ef) ∧ SL (RF Actn.enc) 4 w (.slice p x.2.length c) x.2 := by
  obtain ⟨bs, rfl, h2, h3⟩ := h
  obtain ⟨a, cap, rfl, hl, hcap⟩ := h2.openc
  obtain ⟨a', cap', e', _, hc⟩ := h2.open
  cases e'
  refine ⟨a, cap, by rw [List.length_map], by rw [List.length_map]; exact hl, by rw [List.length_map]; exact hcap, fun k x hx => ?_⟩
  rw [List.getElem?_map, Option.map_eq_some_iff] at hx
  obtain ⟨y, hy, rfl⟩ := hx
  obtain ⟨b, off, ha, hb, hcc⟩ := hc k y hy
  have hs := h3 y (List.mem_of_getElem? hy)
  obtain ⟨p, c, hv, _, _⟩ := hs.openc
  have hd : w.cell? ⟨b, off + k * 6 + 3, none⟩ = some y.v := hcc 3 _ rfl
  rw [hv] at hd hs
  exact ⟨b, off, p, c, ha, hb, hcc 0 _ rfl, hcc 1 _ rfl, hcc 2 _ rfl, hd, hcc 4 _ rfl, hcc 5 _ rfl, hs⟩
theorem SB.openc {w : World} {v : Value} {cs : List BL} (h : SB w v cs) : ∃ a cap, v = .slice a cs.length cap ∧ cs.length ≤ 9223372036854775807 ∧ cs.length ≤ cap := by
  obtain ⟨a, cap, h1, h2, h3, _⟩ := h.open
  exact ⟨a, cap, h1, h2, h3⟩
/-- Blocks of the call's own. -/
def OB (eB eA lo : Nat) (w : World) (v : Value) (bs : List TB) : Prop := Own TB.enc eB 6 lo w v bs ∧ (∀ x ∈ bs, Own Actn.enc eA 4 lo w x.v x.l ∧ Apart x.v v) ∧ bs.Pairwise (fun x y => Apart x.v y.v)
theorem OB.sb {eB eA lo : Nat} {w : World} {v : Value} {bs : List TB} (h : OB eB eA lo w v bs) : SB w v (bs.map TB.core) := ⟨bs, rfl, h.1.sl TB.enc_length, fun x hx => (h.2.1 x hx).1.sl Actn.enc_length⟩
theorem OB.up {eB eA lo : Nat} {w w' : World} {v : Value} {bs : List TB} (h : OB eB eA lo w v bs) (hE : Ext w w') : OB eB eA lo w' v bs := ⟨h.1.up hE, fun x hx => ⟨(h.2.1 x hx).1.up hE, (h.2.1 x hx).2⟩, h.2.2⟩

/-! ### Trees -/
structure Tree where
  base : List Ent
  bs : List BL
  pr : List Int
def totA (cs : List BL) : Nat := (cs.map fun x => x.2.length).sum
theorem totA_snoc {cs : List BL} {k : Nat} {x : BL} (h : cs[k]? = some x) : totA (cs.take (k + 1)) = totA (cs.take k) + x.2.length := by
  rw [List.take_add_one, h]; simp [totA]
theorem totA_mem {cs : List BL} {x : BL} (h : x ∈ cs) : x.2.length ≤ totA cs := by
  unfold totA
  induction cs with
  | nil => cases h
  | cons y cs ih =>
    rw [List.map_cons, List.sum_cons]
    rcases List.mem_cons.1 h with rfl | h
    · omega
    · have := ih h; omega
theorem totA_le (cs : List BL) (k : Nat) : totA (cs.take k) ≤ totA cs := by
  unfold totA
  conv => rhs; rw [← List.take_append_drop k cs]
  rw [List.map_append, List.sum_append]; omega
/-- The first block's fields. -/
def firstB (s : List Ent) : Blk := if entsOk 1 s = true then ⟨0, 0, 0, rootOf s, 21⟩ else ⟨0, 0, 0, 0, 0⟩
theorem firstB_yes {s : List Ent} (h : entsOk 1 s = true) : firstB s = ⟨0, 0, 0, rootOf s, 21⟩ := by unfold firstB; rw [if_pos h]
theorem firstB_no {s : List Ent} (h : entsOk 1 s = false) : firstB s = ⟨0, 0, 0, 0, 0⟩ := by unfold firstB; rw [if_neg (by simp [h])]
def sameF (x : BL) (f : Blk) : Bool := ((x.1.bf == f.bf) && ((x.1.ht == f.ht) && ((x.1.vw == f.vw) && ((x.1.rt == f.rt) && ((x.1.ef == f.ef) && ((x.2.length : Int) == 0))))))
def bsumOf (x : BL) : Int := bsum x.1 x.2
def sumsOf (cs : List BL) : List Int := cs.map bsumOf
theorem sumsOf_snoc {cs : List BL} {k : Nat} {x : BL} (h : cs[k]? = some x) : sumsOf (cs.take (k + 1)) = sumsOf (cs.take k) ++ [bsumOf x] := by
  rw [List.take_add_one, h]; simp [sumsOf]
theorem sumsOf_length (cs : List BL) : (sumsOf cs).length = cs.length := by simp [sumsOf]
theorem sumsOf_get {cs : List BL} {k : Nat} {x : BL} (h : cs[k]? = some x) : (sumsOf cs)[k]? = some (bsumOf x) := by simp [sumsOf, h]
def newAt (cs : List BL) (i : Nat) : Bool := match cs[i]? with
  | none => true
  | some x => decide (0 ≤ bsumOf x) && !(sumsOf (cs.take i)).contains (bsumOf x)
def linkAt (cs : List BL) (pr : List Int) (i : Nat) : Bool := decide (i = 0) || match cs[i]?, pr[i]? with
  | some x, some n => inR n 0 ((i : Int) - 1) && match cs[n.toNat]? with
    | some y => decide (bsumOf y = x.1.bf) && (decide (y.1.ht + 1 = x.1.ht) && decide (y.1.vw < x.1.vw))
    | none => true
  | _, _ => true
def Tree.head (t : Tree) : Bool := entsOk 1 t.base && (inR t.bs.length 1 14 && (decide (t.pr.length = t.bs.length) && decide (t.pr.getD 0 0 = -1)))
def Tree.first (t : Tree) : Bool := match t.bs[0]? with | some x => sameF x (firstB t.base) | none => true
def Tree.ok (t : Tree) : Bool := t.head && (t.first && (upTo (newAt t.bs) t.bs.length && upTo (linkAt t.bs t.pr) t.bs.length))
theorem bsum_ge {b : Blk} {l : List Actn} (h : b.okL l = true) : 0 ≤ bsum b l ∧ bsum b l < 1000003 := by
  rw [bsum_yes h]; exact sumL_in (by decide) (by decide) _
theorem bsum_ok (b : Blk) (l : List Actn) : decide (0 ≤ bsum b l) = b.okL l := by
  rcases h : b.okL l with _ | _
  · rw [bsum_no h]; rfl
  · have := (bsum_ge h).1; simpa using this
theorem Blk.okL_in {b : Blk} {l : List Actn} (h : b.okL l = true) : (0 ≤ b.bf ∧ b.bf ≤ 1000002) ∧ (0 ≤ b.rt ∧ b.rt ≤ 1000002) ∧ (0 ≤ b.ef ∧ b.ef ≤ 1000002) ∧ (0 ≤ b.ht ∧ b.ht ≤ 100) ∧ (0 ≤ b.vw ∧ b.vw ≤ 1000) := by
  simp only [Blk.okL, Bool.and_eq_true, inR_iff] at h
  exact ⟨h.1, h.2.1, h.2.2.1, h.2.2.2.1, h.2.2.2.2.1⟩
/-- The number of the first block with a sum, -1 for none. -/
def findTo (cs : List BL) (sum : Int) (k : Nat) : Bool := upTo (fun i => match cs[i]? with | none => true | some x => decide (bsumOf x ≠ sum)) k
def findB (cs : List BL) (sum : Int) : Int := match cs.findIdx? (fun x => bsumOf x == sum) with | some i => (i : Int) | none => -1
theorem findTo_next {cs : List BL} {sum : Int} {k : Nat} {x : BL} (h : findTo cs sum k = true) (hx : cs[k]? = some x) (hne : bsumOf x ≠ sum) : findTo cs sum (k + 1) = true :=
  upTo_succ h (by simp only [hx]; simpa using hne)
theorem findTo_ne {cs : List BL} {sum : Int} {k : Nat} (h : findTo cs sum k = true) {i : Nat} (hi : i < k) {y : BL} (hy : cs[i]? = some y) : bsumOf y ≠ sum := by
  have := upTo_iff.1 h i hi
  simpa [hy] using this
theorem findB_at {cs : List BL} {sum : Int} {k : Nat} {x : BL} (h : findTo cs sum k = true) (hx : cs[k]? = some x) (he : bsumOf x = sum) : findB cs sum = k := by
  have : cs.findIdx? (fun x => bsumOf x == sum) = some k := by
    rw [List.findIdx?_eq_some_iff_getElem]
    obtain ⟨h1, h2⟩ := List.getElem?_eq_some_iff.1 hx
    refine ⟨h1, by rw [h2]; simpa using he, fun j hj => ?_⟩
    have := findTo_ne h hj (show cs[j]? = some cs[j] by simp)
    simpa using this
  unfold findB; rw [this]
theorem findB_none {cs : List BL} {sum : Int} (h : findTo cs sum cs.length = true) : findB cs sum = -1 := by
  have : cs.findIdx? (fun x => bsumOf x == sum) = none := by
    rw [List.findIdx?_eq_none_iff]
    intro x hx
    obtain ⟨i, hi⟩ := List.getElem?_of_mem hx
    have := findTo_ne h (List.getElem?_eq_some_iff.1 hi).1 hi
    simpa using this
  unfold findB; rw [this]
theorem findB_ge (cs : List BL) (sum : Int) : -1 ≤ findB cs sum ∧ findB cs sum < cs.length + 1 := by
  unfold findB
  split
  · rename_i i h
    have := (List.findIdx?_eq_some_iff_getElem.1 h).1
    omega
  · omega
/-- A block is the first with its sum: its sum is new. -/
theorem newAt_find {cs : List BL} {k : Nat} {x : BL} (hx : cs[k]? = some x) : newAt cs k = (x.1.okL x.2 && decide (findB cs (bsumOf x) = k)) := by
  unfold newAt
  rw [hx]
  show (decide (0 ≤ bsum x.1 x.2) && _) = _
  rw [bsum_ok]
  congr 1
  rcases hc : (sumsOf (cs.take k)).contains (bsumOf x) with _ | _
  · have : findTo cs (bsumOf x) k = true := by
      refine upTo_iff.2 fun i hi => ?_
      obtain ⟨y, hy⟩ := getElem?_some_of_lt (show i < cs.length by have := (List.getElem?_eq_some_iff.1 hx).1; omega)
      simp only [hy]
      rw [← Bool.not_eq_true] at hc
      have hne : bsumOf y ≠ bsumOf x := fun e => hc (by
        rw [List.contains_iff_mem, ← e]
        exact List.mem_map.2 ⟨y, List.mem_of_getElem? (by rw [List.getElem?_take_of_lt hi]; exact hy), rfl⟩)
      simpa using hne
    simp [findB_at this hx rfl]
  · rw [List.contains_iff_mem] at hc
    obtain ⟨y, hy, he⟩ := List.mem_map.1 hc
    obtain ⟨i, hi⟩ := List.getElem?_of_mem hy
    have hik : i < k := by have := (List.getElem?_eq_some_iff.1 hi).1; simp at this; omega
    rw [List.getElem?_take_of_lt hik] at hi
    have : findB cs (bsumOf x) ≠ k := by
      intro e
      unfold findB at e
      split at e
      · rename_i j hj
        have : j = k := by omega
        subst this
        have h3 := (List.findIdx?_eq_some_iff_getElem.1 hj).2.2 i hik
        obtain ⟨h5, h4⟩ := List.getElem?_eq_some_iff.1 hi
        rw [h4] at h3
        simp [he] at h3
      · omega
    simp [this]
theorem upTo_and {f g : Nat → Bool} (n : Nat) : upTo (fun i => f i && g i) n = (upTo f n && upTo g n) := by
  rw [Bool.eq_iff_iff, Bool.and_eq_true]
  simp only [upTo_iff, Bool.and_eq_true]
  exact ⟨fun h => ⟨fun k hk => (h k hk).1, fun k hk => (h k hk).2⟩, fun h k hk => ⟨h.1 k hk, h.2 k hk⟩⟩
end Go.Proofs.Ytnknamddonjnjaa
namespace Go.Proofs.Ytnknamddonjnjaa
open Go Go.RowKit Go.Proofs

theorem setCell_sz (w : World) (a : Addr) (u : Value) : (w.setCell a u).heap.size = w.heap.size := by simp [World.setCell]
/-- All blocks but rb are as they were. -/
structure ExtR (rb : Nat) (W : World) where
  val : World
  grown : W.grownBy val (some rb)
class NeS (n rb : Nat) : Prop where
  ne : n ≠ rb
theorem grownBy_refl (W : World) (r : Option Nat) : W.grownBy W r := ⟨rfl, rfl, rfl, Nat.le_refl _, fun _ _ _ => rfl⟩
theorem ExtR.block {rb : Nat} {W : World} (z : ExtR rb W) {n : Nat} (h : n < W.heap.size) (hn : n ≠ rb) : z.val.heap[n]? = W.heap[n]? := z.grown.block n h (by intro e; cases e; exact hn rfl)
theorem ExtR.cell {rb : Nat} {W : World} (z : ExtR rb W) (n i : Nat) [h : LtS n W] [hn : NeS n rb] : z.val.cell? ⟨n, i, none⟩ = W.cell? ⟨n, i, none⟩ := by
  simp only [World.cell?, z.block h.lt hn.ne]
theorem ExtR.frozen {rb : Nat} {W : World} (z : ExtR rb W) (n i : Nat) [h : LtS n W] [hn : NeS n rb] : z.val.frozen? ⟨n, i, none⟩ = W.frozen? ⟨n, i, none⟩ := by
  simp only [World.frozen?, z.block h.lt hn.ne]
attribute [go_sem] ExtR.cell ExtR.frozen
instance LtS.upR (n : Nat) {rb : Nat} (w : World) (z : ExtR rb w) [h : LtS n w] : LtS n z.val := ⟨Nat.lt_of_lt_of_le h.lt z.grown.size⟩
instance NeS.new (W : World) (rb : Nat) [h : LtS rb W] : NeS W.heap.size rb := ⟨Nat.ne_of_gt h.lt⟩
instance NeS.new1 (W : World) (rb k : Nat) [h : LtS rb W] : NeS (W.heap.size + k) rb := ⟨by have := h.lt; omega⟩
theorem Ext.upR {w0 W : World} {rb : Nat} (h : Ext w0 W) (hrb : w0.heap.size ≤ rb) (z : ExtR rb W) : Ext w0 z.val := h.grown z.grown fun k hk => by cases hk; exact hrb
theorem ExtR.of {rb : Nat} {w w' : World} (h : w.grownBy w' (some rb)) : ∃ z : ExtR rb w, w' = z.val := ⟨⟨w', h⟩, rfl⟩
theorem ExtR.setR (rb : Nat) (W : World) (i : Nat) (u : Value) : W.grownBy (W.setCell ⟨rb, i, none⟩ u) (some rb) := grownBy_set W ⟨rb, i, none⟩ u
theorem grownBy_trans {a b c : World} {r : Option Nat} (h : a.grownBy b r) (k : b.grownBy c r) : a.grownBy c r :=
  ⟨k.os.trans h.os, k.tape.trans h.tape, k.output.trans h.output, Nat.le_trans h.size k.size, fun n hn hne => (k.block n (Nat.lt_of_lt_of_le hn h.size) hne).trans (h.block n hn hne)⟩
theorem grownBy_ext {a b : World} {r : Option Nat} (h : Ext a b) : a.grownBy b r := ⟨h.1, h.2, h.3, h.size, fun n hn _ => h.block hn⟩
theorem GB.upR {a b : World} {rb : Nat} (h : a.grownBy b (some rb)) (z : ExtR rb b) : a.grownBy z.val (some rb) := grownBy_trans h z.grown
theorem GB.up {a b : World} {r : Option Nat} (h : a.grownBy b r) (z : Extd b) : a.grownBy z.val r := grownBy_trans h (grownBy_ext z.ext)
theorem GB.alloc {a b : World} {r : Option Nat} (h : a.grownBy b r) (o : Obj) : a.grownBy (b.alloc o) r := grownBy_trans h (grownBy_ext ((Ext.refl b).alloc o))
theorem GB.drew {a b : World} {r : Option Nat} (h : a.grownBy b r) : a.grownBy b.drew r := grownBy_trans h (grownBy_ext (Ext.refl b).drew)
theorem GB.setNew {a b : World} {r : Option Nat} (h : a.grownBy b r) {g : Nat} (hg : a.heap.size ≤ g) (i : Nat) (u : Value) : a.grownBy (b.setCell ⟨g, i, none⟩ u) r :=
  ⟨h.os, h.tape, h.output, by rw [setCell_sz]; exact h.size, fun n hn hne => (Below.heap_setCell _ _ _ _ (show n ≠ g by omega)).trans (h.block n hn hne)⟩
instance LeS.upR (w : World) {rb : Nat} (W : World) (z : ExtR rb W) [h : LeS w W] : LeS w z.val := ⟨Nat.le_trans h.le z.grown.size⟩
def encU (n : Int) : List Value := [.int .u8 n]
theorem encU_length (n : Int) : (encU n).length = 1 := rfl
/-- The reader in block rb: bytes that were there at w0, and how many were read, at most lim. -/
structure Rd (w0 w : World) (rb : Nat) (lim : Int) : Prop where
  ext : Ext w0 w
  old : w0.heap.size ≤ rb
  cells : ∃ (vb : Value) (bs : List Int) (p : Int) (ty : TypeId), w.heap[rb]? = some (.cells #[vb, .int .i64 p] ty (0, 0)) ∧ SL (RF encU) 1 w0 vb bs ∧ bs.length ≤ 2000 ∧ (∀ b ∈ bs, 0 ≤ b ∧ b ≤ 255) ∧ 0 ≤ p ∧ p ≤ lim
theorem Rd.lt {w0 w : World} {rb : Nat} {lim : Int} (h : Rd w0 w rb lim) : rb < w.heap.size := by
  obtain ⟨_, _, _, _, h1, _⟩ := h.cells
  exact (Array.getElem?_eq_some_iff.1 h1).1
theorem Rd.up {w0 w w' : World} {rb : Nat} {lim : Int} (h : Rd w0 w rb lim) (hE : Ext w w') : Rd w0 w' rb lim := by
  obtain ⟨h1, h2, vb, bs, p, ty, hc, hs⟩ := h
  exact ⟨h1.trans hE, h2, vb, bs, p, ty, (hE.block (Array.getElem?_eq_some_iff.1 hc).1).trans hc, hs⟩
theorem Rd.mono {w0 w : World} {rb : Nat} {a b : Int} (h : Rd w0 w rb a) (hab : a ≤ b) : Rd w0 w rb b := by
  obtain ⟨h1, h2, vb, bs, p, ty, hc, hs, hl, hb, hp0, hp1⟩ := h
  exact ⟨h1, h2, vb, bs, p, ty, hc, hs, hl, hb, hp0, by omega⟩
theorem Rd.set {w0 w : World} {rb : Nat} {lim : Int} (h : Rd w0 w rb lim) {g : Nat} (i : Nat) (u : Value) (hg : g ≠ rb) (hg0 : w0.heap.size ≤ g) : Rd w0 (w.setCell ⟨g, i, none⟩ u) rb lim := by
  obtain ⟨h1, h2, vb, bs, p, ty, hc, hs⟩ := h
  exact ⟨h1.setCell hg0 u, h2, vb, bs, p, ty, (Below.heap_setCell _ _ _ _ (Ne.symm hg)).trans hc, hs⟩
theorem Rd.step {w0 w : World} {rb : Nat} {lim p : Int} {vb : Value} {bs : List Int} {ty : TypeId} (hE : Ext w0 w) (hold : w0.heap.size ≤ rb) (hc : w.heap[rb]? = some (.cells #[vb, .int .i64 p] ty (0, 0))) (hs : SL (RF encU) 1 w0 vb bs) (hl : bs.length ≤ 2000) (hb : ∀ b ∈ bs, 0 ≤ b ∧ b ≤ 255) (h0 : 0 ≤ p) (h1 : p ≤ lim) : Rd w0 (w.setCell ⟨rb, 1, none⟩ (.int .i64 (p + 1))) rb (lim + 1) := by
  refine ⟨hE.setCell hold _, hold, vb, bs, p + 1, ty, ?_, hs, hl, hb, by omega, by omega⟩
  rw [heap_setCell_same w rb 1 _ ty _ hc]
  rfl
theorem xor_nonneg {a b : Int} (a0 : 0 ≤ a) (a1 : a < 9223372036854775808) (b0 : 0 ≤ b) (b1 : b < 9223372036854775808) : 0 ≤ bits .xor .i64 a b := by
  have := i64_xor_nat a.toNat b.toNat (by omega) (by omega)
  rw [show ((a.toNat : Nat) : Int) = a from by omega, show ((b.toNat : Nat) : Int) = b from by omega] at this
  rw [this]; omega
theorem Rd.alloc {w0 w : World} {rb : Nat} {lim : Int} (h : Rd w0 w rb lim) (o : Obj) : Rd w0 (w.alloc o) rb lim := h.up ((Ext.refl w).alloc o)
theorem Rd.grown {w0 w w' : World} {rb : Nat} {lim : Int} (h : Rd w0 w rb lim) (hE : Ext w0 w') (hb : w'.heap[rb]? = w.heap[rb]?) : Rd w0 w' rb lim := by
  obtain ⟨h1, h2, vb, bs, p, ty, hc, hs⟩ := h
  exact ⟨hE, h2, vb, bs, p, ty, hb.trans hc, hs⟩
theorem quo_pos {a b : Int} (ha : 0 ≤ a) (hb : 0 < b) : 0 ≤ a.tdiv b ∧ a.tdiv b ≤ a := by
  rw [Int.tdiv_eq_ediv_of_nonneg ha]
  exact ⟨Int.ediv_nonneg ha (by omega), Int.ediv_le_self _ ha⟩
theorem rem_pos {a b : Int} (ha : 0 ≤ a) (hb : 0 < b) : 0 ≤ a.tmod b ∧ a.tmod b < b := by
  rw [Int.tmod_eq_emod_of_nonneg ha]
  exact ⟨Int.emod_nonneg a (by omega), Int.emod_lt_of_pos a hb⟩
set_option maxRecDepth 100000 in
set_option maxHeartbeats 2000000 in
theorem pick_any (w0 w : World) (rb : Nat) (lim n : Int) (h : Rd w0 w rb lim) (hl : lim ≤ 1000000) (hn0 : 0 ≤ n) (hn1 : n ≤ 1000000000) :
    Calls Try.prog 26 #[.pointer (some ⟨rb, 0, none⟩), .int .i64 n] w fun e w' => ∃ k : Int, e = .returned (.int .i64 k) ∧ 0 ≤ k ∧ (1 ≤ n → k < n) ∧ (n < 1 → k = 0) ∧ (∃ z : ExtR rb w, w' = z.val) ∧ Rd w0 w' rb (lim + 1) := by
  have hlt := h.lt
  obtain ⟨hE, hold, vb, bs, p, ty, hc, hs, hbl, hbb, hp0, hp1⟩ := h
  obtain ⟨pb, cb, rfl, _, hcc⟩ := hs.open
  have c0 : w.cell? ⟨rb, 0, none⟩ = some (.slice pb bs.length cb) := cell_of_row w rb 0 _ _ _ hc
  have c1 : w.cell? ⟨rb, 1, none⟩ = some (.int .i64 p) := cell_of_row w rb 1 _ _ _ hc
  have f1 : w.frozen? ⟨rb, 1, none⟩ = false := frozen_of_row w rb 1 _ _ hc
  have hL : LtS rb w := ⟨hlt⟩
  have Hs := Lib.hid hs; have Hc := Lib.hid hc; have HE := Lib.hid hE; have Hold := Lib.hid hold; have Hcc := Lib.hid hcc; have Hbb := Lib.hid hbb
  clear hs hc hE hold hcc hbb
  by_cases hz : n < 1
  · go_enter Try.func26, Try.ntmps26
    go_wp2_with fail
    go_ret
    exact ⟨0, rfl, by omega, by omega, by omega, ⟨⟨_, ExtR.setR rb w 1 _⟩, rfl⟩, Rd.step HE.out Hold.out Hc.out Hs.out hbl Hbb.out hp0 hp1⟩
  by_cases hb : bs.length = 0
  · have hb' : ((bs.length : Int) == 0) = true := by simp [hb]
    have Hb := Lib.hid hb; clear hb
    go_enter Try.func26, Try.ntmps26
    go_wp2_with fail
    go_ret
    exact ⟨0, rfl, by omega, by omega, by omega, ⟨⟨_, ExtR.setR rb w 1 _⟩, rfl⟩, Rd.step HE.out Hold.out Hc.out Hs.out hbl Hbb.out hp0 hp1⟩
  have hb' : ((bs.length : Int) == 0) = false := by rw [beq_eq_false_iff_ne]; omega
  by_cases hin : p < bs.length
  · obtain ⟨x, hx⟩ := getElem?_some_of_lt (l := bs) (k := p.toNat) (by omega)
    obtain ⟨b, off, rfl, hbl2, hx2⟩ := Hcc.out p.toNat x hx
    have d0 : w0.cell? ⟨b, off + p.toNat, none⟩ = some (.int .u8 x) := by have := hx2 0 _ rfl; simpa using this
    have hbr : b ≠ rb := by have := hbl2.lt; have := Hold.out; omega
    have d1 : w.cell? ⟨b, off + p.toNat, none⟩ = some (.int .u8 x) := HE.out.some d0
    obtain ⟨x0, x1⟩ := Hbb.out x (List.mem_of_getElem? hx)
    obtain ⟨r0, r1⟩ := rem_pos (a := x) (b := n) x0 (by omega)
    clear hx hx2 d0 r0 r1
    have e0 := Int.emod_nonneg x (show n ≠ 0 by omega)
    have e1 := Int.emod_lt_of_pos x (show 0 < n by omega)
    go_enter Try.func26, Try.ntmps26
    go_wp2_with fail
    go_ret
    exact ⟨x % n, rfl, e0, by first | exact e1 | exact fun _ => e1, fun h => by omega, ⟨⟨_, ExtR.setR rb w 1 _⟩, rfl⟩, Rd.step HE.out Hold.out Hc.out Hs.out hbl Hbb.out hp0 hp1⟩
  · have hbp : 0 < bs.length := by omega
    have hbp' : (0 : Int) < (bs.length : Int) := by omega
    obtain ⟨i0, i1⟩ : 0 ≤ p % (bs.length : Int) ∧ p % (bs.length : Int) < bs.length := ⟨Int.emod_nonneg p (by omega), Int.emod_lt_of_pos p hbp'⟩
    obtain ⟨j0, j1⟩ : 0 ≤ (p * 7 + 3) % (bs.length : Int) ∧ (p * 7 + 3) % (bs.length : Int) < bs.length := ⟨Int.emod_nonneg _ (by omega), Int.emod_lt_of_pos _ hbp'⟩
    obtain ⟨x, hx⟩ := getElem?_some_of_lt (l := bs) (k := (p % (bs.length : Int)).toNat) (by omega)
    obtain ⟨y, hy⟩ := getElem?_some_of_lt (l := bs) (k := ((p * 7 + 3) % (bs.length : Int)).toNat) (by omega)
    obtain ⟨b, off, rfl, hbl2, hx2⟩ := Hcc.out _ x hx
    obtain ⟨b', off', eb, _, hy2⟩ := Hcc.out _ y hy
    simp only [Option.some.injEq, Addr.mk.injEq, and_true] at eb
    obtain ⟨rfl, rfl⟩ := eb
    have d0 : w0.cell? ⟨b, off + (p % (bs.length : Int)).toNat, none⟩ = some (.int .u8 x) := by have := hx2 0 _ rfl; simpa using this
    have g0 : w0.cell? ⟨b, off + ((p * 7 + 3) % (bs.length : Int)).toNat, none⟩ = some (.int .u8 y) := by have := hy2 0 _ rfl; simpa using this
    have hbr : b ≠ rb := by have := hbl2.lt; have := Hold.out; omega
    have d1 : w.cell? ⟨b, off + (p % (bs.length : Int)).toNat, none⟩ = some (.int .u8 x) := HE.out.some d0
    have g1 : w.cell? ⟨b, off + ((p * 7 + 3) % (bs.length : Int)).toNat, none⟩ = some (.int .u8 y) := HE.out.some g0
    obtain ⟨x0, x1⟩ := Hbb.out x (List.mem_of_getElem? hx)
    obtain ⟨y0, y1⟩ := Hbb.out y (List.mem_of_getElem? hy)
    have hLb : LtS b w := LtS.of_some d1
    have q0 : 0 ≤ p / (bs.length : Int) := Int.ediv_nonneg hp0 (by omega)
    have q1 : p / (bs.length : Int) ≤ 1000000 := Int.le_trans (Int.ediv_le_self _ hp0) (by omega)
    clear hx hx2 d0 hy hy2 g0
    go_enter Try.func26, Try.ntmps26
    go_wp2_with fail
    (refine wp_region_up (by kernel_rfl) (by kernel_rfl) ?_; (repeat (go_big_quiet_step (fail))); refine wpQuiet_nil ?_; intro _ hw'; obtain ⟨zq, hw''⟩ := hw'; subst hw'')
    go_wp2_with fail
    go_ret
    refine ⟨_, rfl, (rem_pos (xor_nonneg (by omega) (by omega) (by first | omega | exact (quo_pos (by omega) (by omega)).1) (by first | omega | exact Int.lt_of_le_of_lt (quo_pos (by omega) (by omega)).2 (by omega))) (by omega)).1, fun _ => (rem_pos (xor_nonneg (by omega) (by omega) (by first | omega | exact (quo_pos (by omega) (by omega)).1) (by first | omega | exact Int.lt_of_le_of_lt (quo_pos (by omega) (by omega)).2 (by omega))) (by omega)).2, fun h => by omega, ⟨⟨_, grownBy_trans (ExtR.setR rb w 1 _) (grownBy_ext zq.ext)⟩, rfl⟩, ?_⟩
    exact (Rd.step HE.out Hold.out Hc.out Hs.out hbl Hbb.out hp0 hp1).up zq.ext
set_option maxRecDepth 100000 in
theorem odd_any (w0 w : World) (rb : Nat) (lim n : Int) (h : Rd w0 w rb lim) (hl : lim ≤ 1000000) (hn0 : 0 ≤ n) (hn1 : n ≤ 1000000000) :
    Calls Try.prog 34 #[.pointer (some ⟨rb, 0, none⟩), .int .i64 n] w fun e w' => ∃ b : Bool, e = .returned (.bool b) ∧ (n = 0 → b = false) ∧ (∃ z : ExtR rb w, w' = z.val) ∧ Rd w0 w' rb (lim + 1) := by
  have H := Lib.hid h; clear h
  by_cases hz : 0 < n
  · go_enter Try.func34, Try.ntmps34
    go_wp2_with fail
    refine (pick_any w0 _ rb lim n H.out hl hn0 hn1).mono ?_; rintro e w' ⟨k, rfl, k0, k1, k2, ⟨z, rfl⟩, hr⟩
    go_wp2_with fail
    go_ret
    exact ⟨_, rfl, fun e => by omega, ⟨z, rfl⟩, hr⟩
  · go_enter Try.func34, Try.ntmps34
    go_wp2_with fail
    go_ret
    first | exact ⟨false, rfl, fun _ => rfl, ⟨⟨w, grownBy_refl _ _⟩, rfl⟩, H.out.mono (by omega)⟩ | exact .inl ⟨rfl, ⟨⟨w, grownBy_refl _ _⟩, rfl⟩, H.out.mono (by omega)⟩
set_option maxRecDepth 100000 in
set_option maxHeartbeats 1000000 in
theorem key_any (w0 w : World) (rb : Nat) (lim : Int) (h : Rd w0 w rb lim) (hl : lim ≤ 900000) :
    Calls Try.prog 65 #[.pointer (some ⟨rb, 0, none⟩)] w fun e w' => ∃ k : Int, e = .returned (.int .i64 k) ∧ 0 ≤ k ∧ k ≤ 31 ∧ (∃ z : ExtR rb w, w' = z.val) ∧ Rd w0 w' rb (lim + 3) := by
  have H := Lib.hid h
  have hL : LtS rb w := ⟨h.lt⟩
  clear h
  go_enter Try.func65, Try.ntmps65
  go_wp2_with fail
  refine (pick_any w0 _ rb lim 5 H.out (by omega) (by omega) (by omega)).mono ?_; rintro e w' ⟨k, rfl, k0, k1, k2, ⟨z1, rfl⟩, hr⟩
  have H1 := Lib.hid hr; clear hr
  go_wp2_with fail
  refine (pick_any w0 _ rb (lim + 1) 32 H1.out (by omega) (by omega) (by omega)).mono ?_; rintro e w' ⟨m, rfl, m0, m1, m2, ⟨z2, rfl⟩, hr⟩
  have H2 := Lib.hid hr; clear hr
  go_wp2_with fail
  refine (pick_any w0 _ rb (lim + 1 + 1) 4 (H2.out.up (by repeat (first | (with_reducible exact Ext.refl _) | (with_reducible refine Ext.up ?_ _) | (with_reducible refine Ext.alloc ?_ _) | (with_reducible refine Ext.drew ?_) | (with_reducible refine Ext.setRow ?_ (by first | exact LeS.le | exact LeS.add _ | (simp; done) | (simp; omega)) _) | (with_reducible refine Ext.setCell ?_ (by first | exact LeS.le | exact LeS.add _ | (simp; done) | (simp; omega)) _)))) (by omega) (by omega) (by omega)).mono ?_; rintro e w' ⟨q, rfl, q0, q1, q2, ⟨z3, rfl⟩, hr⟩
  have H3 := Lib.hid hr; clear hr
  have hk1 := k1 (by omega)
  have hm1 := m1 (by omega)
  have hq1 := q1 (by omega)
  clear k1 m1 q1 k2 m2 q2
  have hq : q = 0 ∨ q = 1 ∨ q = 2 ∨ q = 3 := by omega
  rcases hq with rfl | rfl | rfl | rfl
  all_goals
    go_wp2_with fail
    go_ret
    exact ⟨_, rfl, by omega, by omega, ExtR.of (by repeat (first | (with_reducible exact grownBy_refl _ _) | (with_reducible refine GB.setNew ?_ (by first | exact LeS.le | exact LeS.add _ | (simp; done) | (simp; omega)) _ _) | (with_reducible refine GB.alloc ?_ _) | (with_reducible refine GB.drew ?_) | (with_reducible refine GB.upR ?_ _) | (with_reducible refine GB.up ?_ _))), H3.out.mono (by omega)⟩
set_option maxRecDepth 100000 in
set_option maxHeartbeats 1000000 in
theorem value_any (w0 w : World) (rb : Nat) (lim : Int) (h : Rd w0 w rb lim) (hl : lim ≤ 900000) :
    Calls Try.prog 66 #[.pointer (some ⟨rb, 0, none⟩)] w fun e w' => ∃ k : Int, e = .returned (.int .i64 k) ∧ 0 ≤ k ∧ k ≤ 1000000 ∧ (∃ z : ExtR rb w, w' = z.val) ∧ Rd w0 w' rb (lim + 3) := by
  have H := Lib.hid h
  have hL : LtS rb w := ⟨h.lt⟩
  clear h
  go_enter Try.func66, Try.ntmps66
  go_wp2_with fail
  refine (pick_any w0 _ rb lim 12 H.out (by omega) (by omega) (by omega)).mono ?_; rintro e w' ⟨k, rfl, k0, k1, k2, ⟨z1, rfl⟩, hr⟩
  have H1 := Lib.hid hr; clear hr
  go_wp2_with fail
  refine (pick_any w0 _ rb (lim + 1) 256 H1.out (by omega) (by omega) (by omega)).mono ?_; rintro e w' ⟨m, rfl, m0, m1, m2, ⟨z2, rfl⟩, hr⟩
  have H2 := Lib.hid hr; clear hr
  go_wp2_with fail
  refine (pick_any w0 _ rb (lim + 1 + 1) 7 (H2.out.up (by repeat (first | (with_reducible exact Ext.refl _) | (with_reducible refine Ext.up ?_ _) | (with_reducible refine Ext.alloc ?_ _) | (with_reducible refine Ext.drew ?_) | (with_reducible refine Ext.setRow ?_ (by first | exact LeS.le | exact LeS.add _ | (simp; done) | (simp; omega)) _) | (with_reducible refine Ext.setCell ?_ (by first | exact LeS.le | exact LeS.add _ | (simp; done) | (simp; omega)) _)))) (by omega) (by omega) (by omega)).mono ?_; rintro e w' ⟨q, rfl, q0, q1, q2, ⟨z3, rfl⟩, hr⟩
  have H3 := Lib.hid hr; clear hr
  have hk1 := k1 (by omega)
  have hm1 := m1 (by omega)
  have hq1 := q1 (by omega)
  clear k1 m1 q1 k2 m2 q2
  have hq : q = 0 ∨ q = 1 ∨ q = 2 ∨ q = 3 ∨ q = 4 ∨ q = 5 ∨ q = 6 := by omega
  rcases hq with rfl | rfl | rfl | rfl | rfl | rfl | rfl
  all_goals
    go_wp2_with fail
    go_ret
    exact ⟨_, rfl, by omega, by omega, ExtR.of (by repeat (first | (with_reducible exact grownBy_refl _ _) | (with_reducible refine GB.setNew ?_ (by first | exact LeS.le | exact LeS.add _ | (simp; done) | (simp; omega)) _ _) | (with_reducible refine GB.alloc ?_ _) | (with_reducible refine GB.drew ?_) | (with_reducible refine GB.upR ?_ _) | (with_reducible refine GB.up ?_ _))), H3.out.mono (by omega)⟩
end Go.Proofs.Ytnknamddonjnjaa
