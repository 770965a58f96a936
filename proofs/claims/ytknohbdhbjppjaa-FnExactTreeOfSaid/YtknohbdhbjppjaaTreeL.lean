/- Plain laws: trees of blocks, as lists; slices of blocks in memory. -/
import Derived.Test.YtknohbdhbjppjaaBSum
import Derived.Test.YtknohbdhbjppjaaRootL
import Derived.Test.YtknohbdhbjppjaaPutE
import Derived.Test.YtknohbdhbjppjaaPushG
namespace Go.Proofs.Ytknohbdhbjppjaa
open Go Go.RowKit

/-! ### Slices of blocks -/
structure TB where
  b : Blk
  v : Value
  l : List Actn
def TB.enc (x : TB) : List Value := [.int .i64 x.b.bf, .int .i64 x.b.ht, .int .i64 x.b.vw, x.v, .int .i64 x.b.rt, .int .i64 x.b.ef]
theorem TB.enc_length (x : TB) : x.enc.length = 6 := rfl
abbrev BL := Blk × List Actn
def TB.core (x : TB) : BL := (x.b, x.l)
def SB (w : World) (v : Value) (cs : List BL) : Prop := ∃ bs : List TB, cs = bs.map TB.core ∧ SL (RF TB.enc) 6 w v bs ∧ ∀ x ∈ bs, SL (RF Actn.enc) 4 w x.v x.l
theorem SB.up {w w' : World} {v : Value} {cs : List BL} (h : SB w v cs) (hE : Ext w w') : SB w' v cs := by
  obtain ⟨bs, h1, h2, h3⟩ := h
  exact ⟨bs, h1, h2.up hE, fun x hx => (h3 x hx).up hE⟩
theorem SB.open {w : World} {v : Value} {cs : List BL} (h : SB w v cs) : ∃ a cap, v = .slice a cs.length cap ∧ cs.length ≤ 9223372036854775807 ∧ cs.length ≤ cap ∧ ∀ (k : Nat) x, cs[k]? = some x → ∃ b off p c, a = some ⟨b, off, none⟩ ∧ LtS b w ∧
    w.cell? ⟨b, off + k * 6, none⟩ = some (.int .i64 x.1.bf) ∧ w.cell? ⟨b, off + k * 6 + 1, none⟩ = some (.int .i64 x.1.ht) ∧ w.cell? ⟨b, off + k * 6 + 2, none⟩ = some (.int .i64 x.1.vw) ∧
    w.cell? ⟨b, off + k * 6 + 3, none⟩ = some (.slice p x.2.length c) ∧ w.cell? ⟨b, off + k * 6 + 4, none⟩ = some (.int .i64 x.1.rt) ∧ w.cell? ⟨b, off + k * 6 + 5, none⟩ = some (.int .i64 x.1.ef) ∧ SL (RF Actn.enc) 4 w (.slice p x.2.length c) x.2 := by
  obtain ⟨bs, rfl, h2, h3⟩ := h
  obtain ⟨a, cap, rfl, hl, hcap⟩ := h2.openc
  obtain ⟨a', cap', e', _, hc⟩ := h2.open
  cases e'
  refine ⟨a, cap, by rw [List.length_map], by rw [List.length_map]; exact hl, by rw [List.length_map]; exact hcap, fun k x hx => ?_⟩
  rw [List.getElem?_map, Option.map_eq_some_iff] at hx
  obtain ⟨y, hy, rfl⟩ := hx
  obtain ⟨b, off, ha, hb, hcc⟩ := hc k y hy
  have hs := h3 y (List.mem_of_getElem? hy)
  obtain ⟨p, c, hv, _, _⟩ := hs.openc
  have hd : w.cell? ⟨b, off + k * 6 + 3, none⟩ = some y.v := hcc 3 _ rfl
  rw [hv] at hd hs
  exact ⟨b, off, p, c, ha, hb, hcc 0 _ rfl, hcc 1 _ rfl, hcc 2 _ rfl, hd, hcc 4 _ rfl, hcc 5 _ rfl, hs⟩
theorem SB.openc {w : World} {v : Value} {cs : List BL} (h : SB w v cs) : ∃ a cap, v = .slice a cs.length cap ∧ cs.length ≤ 9223372036854775807 ∧ cs.length ≤ cap := by
  obtain ⟨a, cap, h1, h2, h3, _⟩ := h.open
  exact ⟨a, cap, h1, h2, h3⟩
/-- Blocks of the call's own. -/
def OB (eB eA lo : Nat) (w : World) (v : Value) (bs : List TB) : Prop := Own TB.enc eB 6 lo w v bs ∧ (∀ x ∈ bs, Own Actn.enc eA 4 lo w x.v x.l ∧ Apart x.v v) ∧ bs.Pairwise (fun x y => Apart x.v y.v)
theorem OB.sb {eB eA lo : Nat} {w : World} {v : Value} {bs : List TB} (h : OB eB eA lo w v bs) : SB w v (bs.map TB.core) := ⟨bs, rfl, h.1.sl TB.enc_length, fun x hx => (h.2.1 x hx).1.sl Actn.enc_length⟩
theorem OB.up {eB eA lo : Nat} {w w' : World} {v : Value} {bs : List TB} (h : OB eB eA lo w v bs) (hE : Ext w w') : OB eB eA lo w' v bs := ⟨h.1.up hE, fun x hx => ⟨(h.2.1 x hx).1.up hE, (h.2.1 x hx).2⟩, h.2.2⟩

/-! ### Trees -/
structure Tree where
  base : List Ent
  bs : List BL
  pr : List Int
def totA (cs : List BL) : Nat := (cs.map fun x => x.2.length).sum
theorem totA_snoc {cs : List BL} {k : Nat} {x : BL} (h : cs[k]? = some x) : totA (cs.take (k + 1)) = totA (cs.take k) + x.2.length := by
  rw [List.take_add_one, h]; simp [totA]
theorem totA_mem {cs : List BL} {x : BL} (h : x ∈ cs) : x.2.length ≤ totA cs := by
  unfold totA
  induction cs with
  | nil => cases h
  | cons y cs ih =>
    rw [List.map_cons, List.sum_cons]
    rcases List.mem_cons.1 h with rfl | h
    · omega
    · have := ih h; omega
theorem totA_le (cs : List BL) (k : Nat) : totA (cs.take k) ≤ totA cs := by
  unfold totA
  conv => rhs; rw [← List.take_append_drop k cs]
  rw [List.map_append, List.sum_append]; omega
/-- The first block's fields. -/
def firstB (s : List Ent) : Blk := if entsOk 1 s = true then ⟨0, 0, 0, rootOf s, 21⟩ else ⟨0, 0, 0, 0, 0⟩
theorem firstB_yes {s : List Ent} (h : entsOk 1 s = true) : firstB s = ⟨0, 0, 0, rootOf s, 21⟩ := by unfold firstB; rw [if_pos h]
theorem firstB_no {s : List Ent} (h : entsOk 1 s = false) : firstB s = ⟨0, 0, 0, 0, 0⟩ := by unfold firstB; rw [if_neg (by simp [h])]
def sameF (x : BL) (f : Blk) : Bool := ((x.1.bf == f.bf) && ((x.1.ht == f.ht) && ((x.1.vw == f.vw) && ((x.1.rt == f.rt) && ((x.1.ef == f.ef) && ((x.2.length : Int) == 0))))))
def bsumOf (x : BL) : Int := bsum x.1 x.2
def sumsOf (cs : List BL) : List Int := cs.map bsumOf
theorem sumsOf_snoc {cs : List BL} {k : Nat} {x : BL} (h : cs[k]? = some x) : sumsOf (cs.take (k + 1)) = sumsOf (cs.take k) ++ [bsumOf x] := by
  rw [List.take_add_one, h]; simp [sumsOf]
theorem sumsOf_length (cs : List BL) : (sumsOf cs).length = cs.length := by simp [sumsOf]
theorem sumsOf_get {cs : List BL} {k : Nat} {x : BL} (h : cs[k]? = some x) : (sumsOf cs)[k]? = some (bsumOf x) := by simp [sumsOf, h]
def newAt (cs : List BL) (i : Nat) : Bool := match cs[i]? with
  | none => true
  | some x => decide (0 ≤ bsumOf x) && !(sumsOf (cs.take i)).contains (bsumOf x)
def linkAt (cs : List BL) (pr : List Int) (i : Nat) : Bool := decide (i = 0) || match cs[i]?, pr[i]? with
  | some x, some n => inR n 0 ((i : Int) - 1) && match cs[n.toNat]? with
    | some y => decide (bsumOf y = x.1.bf) && (decide (y.1.ht + 1 = x.1.ht) && decide (y.1.vw < x.1.vw))
    | none => true
  | _, _ => true
def Tree.head (t : Tree) : Bool := entsOk 1 t.base && (inR t.bs.length 1 14 && (decide (t.pr.length = t.bs.length) && decide (t.pr.getD 0 0 = -1)))
def Tree.first (t : Tree) : Bool := match t.bs[0]? with | some x => sameF x (firstB t.base) | none => true
def Tree.ok (t : Tree) : Bool := t.head && (t.first && (upTo (newAt t.bs) t.bs.length && upTo (linkAt t.bs t.pr) t.bs.length))
theorem bsum_ge {b : Blk} {l : List Actn} (h : b.okL l = true) : 0 ≤ bsum b l ∧ bsum b l < 1000003 := by
  rw [bsum_yes h]; exact sumL_in (by decide) (by decide) _
theorem bsum_ok (b : Blk) (l : List Actn) : decide (0 ≤ bsum b l) = b.okL l := by
  rcases h : b.okL l with _ | _
  · rw [bsum_no h]; rfl
  · have := (bsum_ge h).1; simpa using this
theorem Blk.okL_in {b : Blk} {l : List Actn} (h : b.okL l = true) : (0 ≤ b.bf ∧ b.bf ≤ 1000002) ∧ (0 ≤ b.rt ∧ b.rt ≤ 1000002) ∧ (0 ≤ b.ef ∧ b.ef ≤ 1000002) ∧ (0 ≤ b.ht ∧ b.ht ≤ 100) ∧ (0 ≤ b.vw ∧ b.vw ≤ 1000) := by
  simp only [Blk.okL, Bool.and_eq_true, inR_iff] at h
  exact ⟨h.1, h.2.1, h.2.2.1, h.2.2.2.1, h.2.2.2.2.1⟩
/-- The number of the first block with a sum, -1 for none. -/
def findTo (cs : List BL) (sum : Int) (k : Nat) : Bool := upTo (fun i => match cs[i]? with | none => true | some x => decide (bsumOf x ≠ sum)) k
def findB (cs : List BL) (sum : Int) : Int := match cs.findIdx? (fun x => bsumOf x == sum) with | some i => (i : Int) | none => -1
theorem findTo_next {cs : List BL} {sum : Int} {k : Nat} {x : BL} (h : findTo cs sum k = true) (hx : cs[k]? = some x) (hne : bsumOf x ≠ sum) : findTo cs sum (k + 1) = true :=
  upTo_succ h (by simp only [hx]; simpa using hne)
theorem findTo_ne {cs : List BL} {sum : Int} {k : Nat} (h : findTo cs sum k = true) {i : Nat} (hi : i < k) {y : BL} (hy : cs[i]? = some y) : bsumOf y ≠ sum := by
  have := upTo_iff.1 h i hi
  simpa [hy] using this
theorem findB_at {cs : List BL} {sum : Int} {k : Nat} {x : BL} (h : findTo cs sum k = true) (hx : cs[k]? = some x) (he : bsumOf x = sum) : findB cs sum = k := by
  have : cs.findIdx? (fun x => bsumOf x == sum) = some k := by
    rw [List.findIdx?_eq_some_iff_getElem]
    obtain ⟨h1, h2⟩ := List.getElem?_eq_some_iff.1 hx
    refine ⟨h1, by rw [h2]; simpa using he, fun j hj => ?_⟩
    have := findTo_ne h hj (show cs[j]? = some cs[j] by simp)
    simpa using this
  unfold findB; rw [this]
theorem findB_none {cs : List BL} {sum : Int} (h : findTo cs sum cs.length = true) : findB cs sum = -1 := by
  have : cs.findIdx? (fun x => bsumOf x == sum) = none := by
    rw [List.findIdx?_eq_none_iff]
    intro x hx
    obtain ⟨i, hi⟩ := List.getElem?_of_mem hx
    have := findTo_ne h (List.getElem?_eq_some_iff.1 hi).1 hi
    simpa using this
  unfold findB; rw [this]
theorem findB_ge (cs : List BL) (sum : Int) : -1 ≤ findB cs sum ∧ findB cs sum < cs.length + 1 := by
  unfold findB
  split
  · rename_i i h
    have := (List.findIdx?_eq_some_iff_getElem.1 h).1
    omega
  · omega
/-- A block is the first with its sum: its sum is new. -/
theorem newAt_find {cs : List BL} {k : Nat} {x : BL} (hx : cs[k]? = some x) : newAt cs k = (x.1.okL x.2 && decide (findB cs (bsumOf x) = k)) := by
  unfold newAt
  rw [hx]
  show (decide (0 ≤ bsum x.1 x.2) && _) = _
  rw [bsum_ok]
  congr 1
  rcases hc : (sumsOf (cs.take k)).contains (bsumOf x) with _ | _
  · have : findTo cs (bsumOf x) k = true := by
      refine upTo_iff.2 fun i hi => ?_
      obtain ⟨y, hy⟩ := getElem?_some_of_lt (show i < cs.length by have := (List.getElem?_eq_some_iff.1 hx).1; omega)
      simp only [hy]
      rw [← Bool.not_eq_true] at hc
      have hne : bsumOf y ≠ bsumOf x := fun e => hc (by
        rw [List.contains_iff_mem, ← e]
        exact List.mem_map.2 ⟨y, List.mem_of_getElem? (by rw [List.getElem?_take_of_lt hi]; exact hy), rfl⟩)
      simpa using hne
    simp [findB_at this hx rfl]
  · rw [List.contains_iff_mem] at hc
    obtain ⟨y, hy, he⟩ := List.mem_map.1 hc
    obtain ⟨i, hi⟩ := List.getElem?_of_mem hy
    have hik : i < k := by have := (List.getElem?_eq_some_iff.1 hi).1; simp at this; omega
    rw [List.getElem?_take_of_lt hik] at hi
    have : findB cs (bsumOf x) ≠ k := by
      intro e
      unfold findB at e
      split at e
      · rename_i j hj
        have : j = k := by omega
        subst this
        have h3 := (List.findIdx?_eq_some_iff_getElem.1 hj).2.2 i hik
        obtain ⟨h5, h4⟩ := List.getElem?_eq_some_iff.1 hi
        rw [h4] at h3
        simp [he] at h3
      · omega
    simp [this]
theorem upTo_and {f g : Nat → Bool} (n : Nat) : upTo (fun i => f i && g i) n = (upTo f n && upTo g n) := by
  rw [Bool.eq_iff_iff, Bool.and_eq_true]
  simp only [upTo_iff, Bool.and_eq_true]
  exact ⟨fun h => ⟨fun k hk => (h k hk).1, fun k hk => (h k hk).2⟩, fun h k hk => ⟨h.1 k hk, h.2 k hk⟩⟩
end Go.Proofs.Ytknohbdhbjppjaa
