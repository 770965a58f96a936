/- Plain laws: stores of entries, the values of all keys, versions that are read, sums. Walks: FnExactOrderFits: orders of actions. Plain ground: append of one element just built. Plain laws: levels of actions. -/
import Derived.Test.YtknohbdhbjppjaaGPVTop00
import Derived.Test.YtknohbdhbjppjaaGPVTop03
import Derived.Test.YtknohbdhbjppjaaGPVTop04
import Derived.Test.YtknohbdhbjppjaaGPVTop05
set_option linter.unusedSimpArgs false
set_option linter.unusedVariables false
namespace Go.Proofs.Ytknohbdhbjppjaa
open Go Go.RowKit

/-! ### Entries -/
def entAt (least : Int) (l : List Ent) (i : Nat) : Bool := match l[i]? with
  | none => true
  | some x => (inR x.k 0 31 && inR x.v least 1000000) && (decide (i = 0) || match l[i - 1]? with | none => true | some y => decide (y.k < x.k))
theorem entAt_first {least : Int} {l : List Ent} {i : Nat} {x : Ent} (h : l[i]? = some x) (hi : ¬ 0 < i) : entAt least l i = (inR x.k 0 31 && inR x.v least 1000000) := by
  obtain rfl : i = 0 := by omega
  simp [entAt, h]
theorem entAt_next {least : Int} {l : List Ent} {i : Nat} {x y : Ent} (h : l[i]? = some x) (hi : 0 < i) (hy : l[i - 1]? = some y) : entAt least l i = ((inR x.k 0 31 && inR x.v least 1000000) && decide (y.k < x.k)) := by
  have : i ≠ 0 := by omega
  simp [entAt, h, hy, this]
def entsOk (least : Int) (l : List Ent) : Bool := upTo (entAt least l) l.length
theorem entAt_in {least : Int} {l : List Ent} {i : Nat} {x : Ent} (h : l[i]? = some x) (hf : entAt least l i = true) : 0 ≤ x.k ∧ x.k ≤ 31 ∧ least ≤ x.v ∧ x.v ≤ 1000000 := by
  simp only [entAt, h, Bool.and_eq_true, inR_iff] at hf
  exact ⟨hf.1.1.1, hf.1.1.2, hf.1.2.1, hf.1.2.2⟩
theorem entAt_lt {least : Int} {l : List Ent} {i : Nat} {x y : Ent} (h : l[i + 1]? = some x) (hy : l[i]? = some y) (hf : entAt least l (i + 1) = true) : y.k < x.k := by
  rw [entAt_next h (by omega) (by simpa using hy)] at hf
  simp at hf; exact hf.2
theorem entsOk_at {least : Int} {l : List Ent} (h : entsOk least l = true) {i : Nat} {x : Ent} (hx : l[i]? = some x) : 0 ≤ x.k ∧ x.k ≤ 31 ∧ least ≤ x.v ∧ x.v ≤ 1000000 :=
  entAt_in hx (upTo_iff.1 h i (List.getElem?_eq_some_iff.1 hx).1)
theorem entsOk_mem {least : Int} {l : List Ent} (h : entsOk least l = true) {x : Ent} (hx : x ∈ l) : 0 ≤ x.k ∧ x.k ≤ 31 ∧ least ≤ x.v ∧ x.v ≤ 1000000 := by
  obtain ⟨i, hi⟩ := List.getElem?_of_mem hx
  exact entsOk_at h hi
theorem upTo_mono {f : Nat → Bool} {k n : Nat} (h : upTo f n = true) (hk : k ≤ n) : upTo f k = true := upTo_iff.2 fun i hi => upTo_iff.1 h i (by omega)
theorem asc_of {least : Int} {l : List Ent} (h : entsOk least l = true) : l.Pairwise fun a b => a.k < b.k := by
  have key : ∀ n (i : Nat) x y, l[i]? = some x → l[i + (n + 1)]? = some y → x.k < y.k := by
    intro n
    induction n with
    | zero => intro i x y hx hy; exact entAt_lt hy hx (upTo_iff.1 h _ (List.getElem?_eq_some_iff.1 hy).1)
    | succ n ih =>
      intro i x y hx hy
      have hlt := (List.getElem?_eq_some_iff.1 hy).1
      obtain ⟨z, hz⟩ := getElem?_some_of_lt (show i + (n + 1) < l.length by omega)
      have h1 := ih i x z hx hz
      have h2 := entAt_lt (y := z) hy hz (upTo_iff.1 h _ hlt)
      omega
  rw [List.pairwise_iff_getElem]
  intro i j hi hj hij
  have := key (j - i - 1) i l[i] l[j] (by simp) (by rw [show i + (j - i - 1 + 1) = j from by omega]; simp)
  exact this
theorem asc_len_aux : ∀ (l : List Ent) (lo : Int), l.Pairwise (fun a b => a.k < b.k) → (∀ x ∈ l, lo ≤ x.k ∧ x.k ≤ 31) → (l.length : Int) ≤ max 0 (32 - lo)
  | [], lo, _, _ => by simp; omega
  | a :: l, lo, h, hin => by
    rw [List.pairwise_cons] at h
    have ha := hin a (by simp)
    have := asc_len_aux l (a.k + 1) h.2 (fun x hx => ⟨by have := h.1 x hx; omega, (hin x (by simp [hx])).2⟩)
    simp only [List.length_cons]; omega
theorem entsOk_len {least : Int} {l : List Ent} (h : entsOk least l = true) : l.length ≤ 32 := by
  have := asc_len_aux l 0 (asc_of h) (fun x hx => by have := entsOk_mem h hx; omega)
  omega
theorem entsOk_least {a b : Int} (hab : b ≤ a) {l : List Ent} (h : entsOk a l = true) : entsOk b l = true := by
  refine upTo_iff.2 fun i hi => ?_
  have := upTo_iff.1 h i hi
  unfold entAt at *
  split at this
  · rfl
  · rename_i x h1
    simp only [Bool.and_eq_true, inR_iff] at this ⊢
    exact ⟨⟨this.1.1, by omega, this.1.2.2⟩, this.2⟩

/-! ### The values of all keys -/
def atK (l : List Ent) (key : Int) : Int := match l.find? (fun e => e.k == key) with | some e => e.v | none => 0
def vset (v : List Int) (e : Ent) : List Int := v.set e.k.toNat e.v
def vsets (v : List Int) (l : List Ent) : List Int := l.foldl vset v
def zeros : List Int := List.replicate 32 0
def valsOf (l : List Ent) : List Int := vsets zeros l
theorem vset_length (v : List Int) (e : Ent) : (vset v e).length = v.length := by simp [vset]
theorem vsets_length (l : List Ent) : ∀ v : List Int, (vsets v l).length = v.length := by
  induction l with
  | nil => intro v; rfl
  | cons e l ih => intro v; exact (ih _).trans (vset_length v e)
theorem vsets_snoc (v : List Int) {l : List Ent} {k : Nat} {x : Ent} (h : l[k]? = some x) : vsets v (l.take (k + 1)) = vset (vsets v (l.take k)) x := by
  rw [List.take_add_one, h]; simp [vsets]
theorem zeros_length : zeros.length = 32 := rfl
theorem zeros_get {n : Nat} (h : n < 32) : zeros[n]? = some 0 := by unfold zeros; rw [List.getElem?_replicate, if_pos h]
theorem valsOf_length (l : List Ent) : (valsOf l).length = 32 := (vsets_length l zeros).trans zeros_length
theorem vset_get {v : List Int} {e : Ent} {n : Nat} (h0 : 0 ≤ e.k) (hn : n < v.length) : (vset v e)[n]? = if e.k = (n : Int) then some e.v else v[n]? := by
  unfold vset
  by_cases h : e.k = n
  · rw [if_pos h, show e.k.toNat = n from by omega, List.getElem?_set_self hn]
  · rw [if_neg h, List.getElem?_set_ne (by omega)]
theorem vsets_get : ∀ (l : List Ent) (v : List Int) (n : Nat), l.Pairwise (fun a b => a.k < b.k) → (∀ x ∈ l, 0 ≤ x.k) → n < v.length →
    (vsets v l)[n]? = match l.find? (fun e => e.k == (n : Int)) with | some e => some e.v | none => v[n]?
  | [], v, n, _, _, _ => by simp [vsets]
  | a :: l, v, n, h, h0, hn => by
    rw [List.pairwise_cons] at h
    have ha := h0 a (by simp)
    have ih := vsets_get l (vset v a) n h.2 (fun x hx => h0 x (by simp [hx])) (by rw [vset_length]; exact hn)
    show (vsets (vset v a) l)[n]? = _
    rw [ih, List.find?_cons]
    by_cases hk : a.k = n
    · have hnone : l.find? (fun e => e.k == (n : Int)) = none := by
        rw [List.find?_eq_none]; intro x hx; have := h.1 x hx; simp; omega
      simp only [hnone, vset_get ha hn, hk, beq_self_eq_true, if_true]
    · have : (a.k == (n : Int)) = false := by simpa using hk
      simp only [this, vset_get ha hn, if_neg hk]
theorem valsOf_get {least : Int} {l : List Ent} (h : entsOk least l = true) {n : Nat} (hn : n < 32) : (valsOf l)[n]? = some (atK l n) := by
  unfold valsOf atK
  rw [vsets_get l zeros n (asc_of h) (fun x hx => (entsOk_mem h hx).1) (by rw [zeros_length]; exact hn)]
  cases l.find? (fun e => e.k == (n : Int)) with
  | some e => rfl
  | none => exact zeros_get hn
theorem atK_in {least : Int} {l : List Ent} (h : entsOk least l = true) (h0 : 0 ≤ least) (key : Int) : 0 ≤ atK l key ∧ atK l key ≤ 1000000 := by
  unfold atK
  split
  · rename_i e he
    have := entsOk_mem h (List.mem_of_find?_eq_some he)
    omega
  · omega
/-- The search of a key, entry by entry. -/
def noK (l : List Ent) (key : Int) (k : Nat) : Bool := upTo (fun i => match l[i]? with | none => true | some x => decide (x.k ≠ key)) k
theorem atK_found {l : List Ent} {key : Int} {k : Nat} {x : Ent} (hn : noK l key k = true) (hx : l[k]? = some x) (hk : x.k = key) : atK l key = x.v := by
  have hs : l.take k ++ x :: l.drop (k + 1) = l := by
    have hlt := (List.getElem?_eq_some_iff.1 hx)
    obtain ⟨h1, h2⟩ := hlt
    rw [← h2, ← List.drop_eq_getElem_cons h1, List.take_append_drop]
  have hnone : (l.take k).find? (fun e => e.k == key) = none := by
    rw [List.find?_eq_none]
    intro y hy
    obtain ⟨i, hi⟩ := List.getElem?_of_mem hy
    have hik : i < k := by
      have := (List.getElem?_eq_some_iff.1 hi).1
      simp at this; omega
    rw [List.getElem?_take_of_lt hik] at hi
    have := upTo_iff.1 hn i hik
    simp only [hi] at this
    simpa using this
  unfold atK
  rw [← hs, List.find?_append, hnone, Option.none_or, List.find?_cons, hk]
  simp
theorem atK_none {l : List Ent} {key : Int} (hn : noK l key l.length = true) : atK l key = 0 := by
  have hnone : l.find? (fun e => e.k == key) = none := by
    rw [List.find?_eq_none]
    intro y hy
    obtain ⟨i, hi⟩ := List.getElem?_of_mem hy
    have := upTo_iff.1 hn i (List.getElem?_eq_some_iff.1 hi).1
    simp only [hi] at this
    simpa using this
  unfold atK; rw [hnone]
theorem noK_next {l : List Ent} {key : Int} {k : Nat} {x : Ent} (hn : noK l key k = true) (hx : l[k]? = some x) (hk : x.k ≠ key) : noK l key (k + 1) = true :=
  upTo_succ hn (by simp only [hx]; simpa using hk)

/-! ### Values as a store -/
def stTo (v : List Int) : Nat → List Ent
  | 0 => []
  | k + 1 => stTo v k ++ if 0 < v.getD k 0 then [⟨(k : Int), v.getD k 0⟩] else []
def storeOf (v : List Int) : List Ent := stTo v 32
theorem stTo_len (v : List Int) : ∀ k, (stTo v k).length ≤ k
  | 0 => Nat.le_refl _
  | k + 1 => by have := stTo_len v k; unfold stTo; split <;> simp <;> omega
theorem stTo_yes {v : List Int} {k : Nat} {x : Int} (hx : v[k]? = some x) (h : 0 < x) : stTo v (k + 1) = stTo v k ++ [⟨(k : Int), x⟩] := by
  have : v.getD k 0 = x := by simp [List.getD, hx]
  rw [stTo, this, if_pos h]
theorem stTo_no {v : List Int} {k : Nat} {x : Int} (hx : v[k]? = some x) (h : ¬ 0 < x) : stTo v (k + 1) = stTo v k := by
  have : v.getD k 0 = x := by simp [List.getD, hx]
  rw [stTo, this, if_neg h, List.append_nil]

/-! ### Versions that are read -/
def rdStep (key by_ : Int) (p : Int × Int) (x : Ver) : Int × Int := if x.k = key ∧ x.b < by_ then (x.v, x.b) else p
def readV (base : Int) (l : List Ver) (key by_ : Int) : Int × Int := l.foldl (rdStep key by_) (base, -1)
theorem readV_snoc (base : Int) {l : List Ver} (key by_ : Int) {k : Nat} {x : Ver} (h : l[k]? = some x) : readV base (l.take (k + 1)) key by_ = rdStep key by_ (readV base (l.take k) key by_) x := by
  rw [List.take_add_one, h]; simp [readV]
theorem rdStep_yes {key by_ : Int} {p : Int × Int} {x : Ver} (h : x.k = key) (h' : x.b < by_) : rdStep key by_ p x = (x.v, x.b) := if_pos ⟨h, h'⟩
theorem rdStep_no1 {key by_ : Int} {p : Int × Int} {x : Ver} (h : x.k ≠ key) : rdStep key by_ p x = p := if_neg fun a => h a.1
theorem rdStep_no2 {key by_ : Int} {p : Int × Int} {x : Ver} (h : ¬ x.b < by_) : rdStep key by_ p x = p := if_neg fun a => h a.2

/-! ### Sums -/
def sumStep (s n : Int) : Int := (31 * s + n + 7) % 1000003
def sumL (s : Int) (l : List Int) : Int := l.foldl sumStep s
def summed (l : List Int) : Bool := l.all fun n => inR n 0 2000000
def sumOf (tag : Int) (l : List Int) : Int := if (inR tag 0 9 && summed l) = true then sumL (17 + tag) l else -1
theorem sumStep_in {s n : Int} : 0 ≤ sumStep s n ∧ sumStep s n < 1000003 := by unfold sumStep; omega
theorem sumL_snoc (s : Int) {l : List Int} {k : Nat} {x : Int} (h : l[k]? = some x) : sumL s (l.take (k + 1)) = sumStep (sumL s (l.take k)) x := by
  rw [List.take_add_one, h]; simp [sumL]
theorem sumL_in {s : Int} (h0 : 0 ≤ s) (h1 : s < 1000003) : ∀ l : List Int, 0 ≤ sumL s l ∧ sumL s l < 1000003 := by
  intro l
  induction l generalizing s with
  | nil => exact ⟨h0, h1⟩
  | cons n l ih => exact ih (s := sumStep s n) sumStep_in.1 sumStep_in.2
theorem szOf_eq {n : Int} {len : Nat} (h : ¬ szOf n len < 0) : szOf n len = n - len := by unfold szOf at *; split at h <;> first | omega | (rw [if_neg (by assumption)])
theorem storeOf_le (v : List Int) : (storeOf v).length ≤ 32 := stTo_len v 32
/-- The values that remain. -/
def lastV (s : List Ent) (l : List Ver) : List Int := (List.range 32).map fun key : Nat => (readV (atK s key) l key 10).1
theorem lastV_length (s : List Ent) (l : List Ver) : (lastV s l).length = 32 := by simp [lastV]
theorem lastV_get (s : List Ent) (l : List Ver) {k : Nat} (h : k < 32) : (lastV s l)[k]? = some (readV (atK s k) l k 10).1 := by simp [lastV, h]
def mixV (a b : List Int) (k : Nat) : List Int := a.take k ++ b.drop k
theorem mixV_zero (a b : List Int) : mixV a b 0 = b := by simp [mixV]
theorem mixV_all {a b : List Int} (h : a.length = b.length) : mixV a b b.length = a := by simp [mixV, ← h]
theorem mixV_length {a b : List Int} (h : a.length = b.length) {k : Nat} (hk : k ≤ b.length) : (mixV a b k).length = b.length := by simp [mixV]; omega
theorem mixV_next {a b : List Int} {k : Nat} {x : Int} (h : a.length = b.length) (hx : a[k]? = some x) : (mixV a b k).set k x = mixV a b (k + 1) := by
  have hk : k < a.length := (List.getElem?_eq_some_iff.1 hx).1
  apply List.ext_getElem?
  intro i
  unfold mixV
  by_cases hi : i = k
  · subst hi
    rw [List.getElem?_set_self (by simp; omega), List.getElem?_append_left (by simp; omega), List.getElem?_take_of_lt (by omega), hx]
  · rw [List.getElem?_set_ne (by omega)]
    by_cases h1 : i < k
    · rw [List.getElem?_append_left (by simp; omega), List.getElem?_append_left (by simp; omega), List.getElem?_take_of_lt h1, List.getElem?_take_of_lt (by omega)]
    · rw [List.getElem?_append_right (by simp; omega), List.getElem?_append_right (by simp; omega), List.getElem?_drop, List.getElem?_drop]
      congr 1
      simp; omega
end Go.Proofs.Ytknohbdhbjppjaa
namespace Go.Proofs.Ytknohbdhbjppjaa
open Go Go.RowKit Go.Proofs

/-- x is among l's. -/
def hasI (l : List Int) (x : Int) : Bool := l.contains x
theorem hasI_iff {l : List Int} {x : Int} : hasI l x = true ↔ x ∈ l := by simp [hasI]
theorem hasI_not {l : List Int} {x : Int} : hasI l x = false ↔ x ∉ l := by rw [← hasI_iff]; simp
set_option maxHeartbeats 1000000 in
theorem indexI_any (l : List Int) (v : Value) (x : Int) (w : World) (h : SL (RF encI) 1 w v l) :
    Calls Try.prog 151 #[v, .int .i64 x] w fun e w' => ∃ n : Int, e = .returned (.int .i64 n) ∧ decide (0 ≤ n) = hasI l x ∧ w = w' := by
  obtain ⟨a, cap, rfl, hlen, hc⟩ := h.open
  clear h
  go_enter Try.func151, Try.ntmps151
  go_wp2_with fail
  go_loop [5, 8] (fun _ s8 => ∃ k : Nat, s8 = .int .i64 k ∧ k ≤ l.length ∧ hasI (l.take k) x = false) (fun _ s8 => l.length - (intOf s8).toNat)
  case atStart => exact ⟨0, rfl, Nat.zero_le _, rfl⟩
  case round =>
    obtain ⟨k, rfl, hk, hall⟩ := hrel
    by_cases hlt : k < l.length
    · obtain ⟨y, hyk⟩ := getElem?_some_of_lt hlt
      obtain ⟨b, off, rfl, hb, hcc⟩ := hc k y hyk
      have c0 : w.cell? ⟨b, off + k, none⟩ = some (.int .i64 y) := by have := hcc 0 _ rfl; simpa using this
      have Hy := Lib.hid hyk; have Hall := Lib.hid hall
      clear hcc hc hyk hall
      rcases eq_cases x y with ⟨h1, h1'⟩ | ⟨h1, h1'⟩
      · have H1 := Lib.hid h1; clear h1
        go_wp2_with fail
        go_ret
        refine ⟨_, rfl, ?_, rfl⟩
        have : x ∈ l := by rw [H1.out]; exact List.mem_of_getElem? Hy.out
        rw [hasI_iff.2 this]; simp
      · have H1 := Lib.hid h1'
        go_wp2_with fail
        go_round
        case rel => exact ⟨k + 1, by go_num, by omega, contains_next Hy.out Hall.out H1.out⟩
        case measure => simp [intOf]; omega
    · go_wp2_with fail
      go_ret
      obtain rfl : k = l.length := by omega
      rw [List.take_length] at hall
      exact ⟨_, rfl, by rw [hall]; rfl, rfl⟩
theorem containsI_any (l : List Int) (v : Value) (x : Int) (w : World) (h : SL (RF encI) 1 w v l) :
    Calls Try.prog 112 #[v, .int .i64 x] w fun e w' => e = .returned (.bool (hasI l x)) ∧ w = w' := by
  have H := Lib.hid h; clear h
  go_enter Try.func112, Try.ntmps112
  go_wp2_with (go_at_call 151; refine (indexI_any l _ _ _ H.out).mono ?_; rintro e w' ⟨n, rfl, hn, rfl⟩)
  go_ret
  exact ⟨rfl, rfl⟩
def cfAt (l : List Actn) (m n : Int) : Bool := match l[m.toNat]?, l[n.toNat]? with
  | some x, some y => conf x y
  | _, _ => false
def pairOk (l : List Actn) (o : List Int) (k j : Nat) : Bool := match o[j]?, o[k]? with
  | some m, some n => decide (m ≠ n) && !(decide (n < m) && cfAt l m n)
  | _, _ => true
def ordAt (l : List Actn) (o : List Int) (k : Nat) : Bool := match o[k]? with
  | some n => inR n 0 ((l.length : Int) - 1) && upTo (pairOk l o k) k
  | none => true
def ordOk (l : List Actn) (o : List Int) : Bool := actsOk l && (decide (o.length = l.length) && upTo (ordAt l o) o.length)
theorem pairOk_eq {l : List Actn} {o : List Int} {k j : Nat} {m n : Int} (hm : o[j]? = some m) (hn : o[k]? = some n) : pairOk l o k j = (decide (m ≠ n) && !(decide (n < m) && cfAt l m n)) := by simp [pairOk, hm, hn]
theorem cfAt_eq {l : List Actn} {m n : Int} {x y : Actn} (hx : l[m.toNat]? = some x) (hy : l[n.toNat]? = some y) : cfAt l m n = conf x y := by simp [cfAt, hx, hy]
theorem ordAt_eq {l : List Actn} {o : List Int} {k : Nat} {n : Int} (hn : o[k]? = some n) : ordAt l o k = (inR n 0 ((l.length : Int) - 1) && upTo (pairOk l o k) k) := by simp [ordAt, hn]
theorem ordAt_in {l : List Actn} {o : List Int} {k j : Nat} {m : Int} (h : upTo (ordAt l o) k = true) (hj : j < k) (hm : o[j]? = some m) : 0 ≤ m ∧ m < l.length := by
  have := upTo_iff.1 h j hj
  rw [ordAt_eq hm, Bool.and_eq_true, inR_iff] at this
  omega
theorem pair_same {l : List Actn} {o : List Int} {k : Nat} {n : Int} (hn : o[k]? = some n) (h : hasI (o.take k) n = true) : upTo (pairOk l o k) k = false := by
  have hm : n ∈ o.take k := hasI_iff.1 h
  obtain ⟨j, hj⟩ := List.getElem?_of_mem hm
  have hjk : j < k := by have := (List.getElem?_eq_some_iff.1 hj).1; simp at this; omega
  rw [List.getElem?_take_of_lt hjk] at hj
  exact upTo_false hjk (by rw [pairOk_eq hj hn]; simp)
theorem ne_of_contains {o : List Int} {k j : Nat} {m n : Int} (h : hasI (o.take k) n = false) (hj : j < k) (hm : o[j]? = some m) : m ≠ n := by
  rintro rfl
  have : m ∈ o.take k := List.mem_of_getElem? (i := j) (by rw [List.getElem?_take_of_lt hj]; exact hm)
  exact hasI_not.1 h this
theorem actsOk_at {l : List Actn} (h : actsOk l = true) {i : Nat} {x : Actn} (hx : l[i]? = some x) : x.ok = true := by
  simp only [actsOk, Bool.and_eq_true, List.all_eq_true] at h
  exact h.2 x (List.mem_of_getElem? hx)
theorem actsOk_len {l : List Actn} (h : actsOk l = true) : l.length ≤ 10 := by
  simp only [actsOk, Bool.and_eq_true, decide_eq_true_eq] at h
  omega
theorem acell {w : World} {l : List Actn} {a : Option Addr} (hc : ∀ (k : Nat) x, l[k]? = some x → ∃ b off, a = some ⟨b, off, none⟩ ∧ LtS b w ∧ ∀ j u, (Actn.enc x)[j]? = some u → w.cell? ⟨b, off + k * 4 + j, none⟩ = some u) {b off : Nat} (ha : a = some ⟨b, off, none⟩) {k : Nat} {x : Actn} (hx : l[k]? = some x) :
    w.cell? ⟨b, off + k * 4, none⟩ = some (.int .i64 x.kind) ∧ w.cell? ⟨b, off + k * 4 + 1, none⟩ = some (.int .i64 x.src) ∧ w.cell? ⟨b, off + k * 4 + 2, none⟩ = some (.int .i64 x.dst) ∧ w.cell? ⟨b, off + k * 4 + 3, none⟩ = some (.int .i64 x.amt) := by
  obtain ⟨b', off', e, _, hcc⟩ := hc k x hx
  rw [ha] at e
  simp only [Option.some.injEq, Addr.mk.injEq, and_true] at e
  obtain ⟨rfl, rfl⟩ := e
  exact ⟨hcc 0 _ rfl, hcc 1 _ rfl, hcc 2 _ rfl, hcc 3 _ rfl⟩
set_option maxHeartbeats 4000000 in
theorem iOrderFits_any (l : List Actn) (o : List Int) (vl vo : Value) (w : World) (hl : SL (RF Actn.enc) 4 w vl l) (ho : SL (RF encI) 1 w vo o) :
    Calls Try.prog 97 #[vl, vo] w fun e w' => e = .returned (.bool (ordOk l o)) ∧ Up w w' := by
  have Hl := Lib.hid hl; have Ho := Lib.hid ho
  obtain ⟨pl, cl, hvl, hll, hcl⟩ := hl.open
  obtain ⟨po, co, hvo, hlo, hco⟩ := ho.open
  obtain ⟨_, co', hvo', _, hoc⟩ := ho.openc
  rw [hvo] at hvo'; cases hvo'
  subst hvl; subst hvo
  clear hl ho
  rcases ha : actsOk l with _ | _
  · have Hf := Lib.hid (show ordOk l o = false by rw [ordOk, ha]; rfl)
    go_enter Try.func97, Try.ntmps97
    go_wp2_with (go_at_call 147; refine (iActionsValid_any l _ _ Hl.out).mono ?_; rintro e w' ⟨rfl, z1, rfl⟩)
    go_ret
    exact ⟨by rw [Hf.out]; rfl, (.of (by repeat (first | exact Ext.refl _ | refine Ext.up ?_ _ | refine Ext.alloc ?_ _ | refine Ext.drew ?_ | refine Ext.setRow ?_ (by first | (dsimp only; omega) | exact LeS.le | exact LeS.add _ | (simp; done) | (simp; omega)) _ | refine Ext.setCell ?_ (by first | (dsimp only; omega) | exact LeS.le | exact LeS.add _ | (simp; done) | (simp; omega)) _)))⟩
  by_cases hlen : o.length = l.length
  rotate_left
  · have Hf := Lib.hid (show ordOk l o = false by rw [ordOk, decide_eq_false hlen]; simp)
    have hne : ((o.length : Int) != (l.length : Int)) = true := by rw [bne_iff_ne]; omega
    go_enter Try.func97, Try.ntmps97
    go_wp2_with (go_at_call 147; refine (iActionsValid_any l _ _ Hl.out).mono ?_; rintro e w' ⟨rfl, z1, rfl⟩)
    go_ret
    exact ⟨by rw [Hf.out]; rfl, (.of (by repeat (first | exact Ext.refl _ | refine Ext.up ?_ _ | refine Ext.alloc ?_ _ | refine Ext.drew ?_ | refine Ext.setRow ?_ (by first | (dsimp only; omega) | exact LeS.le | exact LeS.add _ | (simp; done) | (simp; omega)) _ | refine Ext.setCell ?_ (by first | (dsimp only; omega) | exact LeS.le | exact LeS.add _ | (simp; done) | (simp; omega)) _)))⟩
  have Hfin := Lib.hid (show ordOk l o = upTo (ordAt l o) o.length by rw [ordOk, decide_eq_true hlen, ha]; rfl)
  have hne : ((o.length : Int) != (l.length : Int)) = false := by rw [bne_eq_false_iff_eq]; omega
  have hl10 := actsOk_len ha
  have Ha := Lib.hid ha
  have hle1 : o.length ≤ l.length := by omega
  have hle2 : l.length ≤ o.length := by omega
  clear hlen
  go_enter Try.func97, Try.ntmps97
  go_wp2_with (go_at_call 147; refine (iActionsValid_any l _ _ Hl.out).mono ?_; rintro e w' ⟨rfl, z1, rfl⟩)
  clear hne
  go_loopw [5, 6, 8, 21] (fun _ _ _ s21 wr => ∃ k : Nat, s21 = .int .i64 k ∧ k ≤ o.length ∧ upTo (ordAt l o) k = true ∧ Up w wr) (fun _ _ _ s21 _ => o.length - (intOf s21).toNat)
  case atStart => exact ⟨0, rfl, Nat.zero_le _, rfl, (.of (by repeat (first | exact Ext.refl _ | refine Ext.up ?_ _ | refine Ext.alloc ?_ _ | refine Ext.drew ?_ | refine Ext.setRow ?_ (by first | (dsimp only; omega) | exact LeS.le | exact LeS.add _ | (simp; done) | (simp; omega)) _ | refine Ext.setCell ?_ (by first | (dsimp only; omega) | exact LeS.le | exact LeS.add _ | (simp; done) | (simp; omega)) _)))⟩
  case round =>
    obtain ⟨k, rfl, hk, hall, ⟨z, rfl⟩⟩ := hrel
    by_cases hlt : k < o.length
    · obtain ⟨n, hnk⟩ := getElem?_some_of_lt hlt
      obtain ⟨b, off, hpo, hb, hcc⟩ := hco k n hnk
      subst hpo
      have c0 : w.cell? ⟨b, off + k, none⟩ = some (.int .i64 n) := by have := hcc 0 _ rfl; simpa using this
      have Hn := Lib.hid hnk; have Hall := Lib.hid hall
      have Hco := Lib.hid hco; have Hcl := Lib.hid hcl
      have hkc : k ≤ co := by omega
      have hkc' : (k : Int) ≤ (co : Int) := by omega
      have hk0 : (0 : Int) ≤ (k : Int) := by omega
      clear hcc hnk hall hco hcl
      rcases hr : inR n 0 ((l.length : Int) - 1) with _ | _
      · have Hf := Lib.hid (show ordAt l o k = false by rw [ordAt_eq Hn.out, hr]; rfl)
        go_wp2_with (go_at_call 89; refine (in_any _ _ _ _).mono ?_; rintro e w' ⟨rfl, rfl⟩)
        go_ret
        exact ⟨by rw [Hfin.out, upTo_false hlt Hf.out]; rfl, (.of (by repeat (first | exact Ext.refl _ | refine Ext.up ?_ _ | refine Ext.alloc ?_ _ | refine Ext.drew ?_ | refine Ext.setRow ?_ (by first | (dsimp only; omega) | exact LeS.le | exact LeS.add _ | (simp; done) | (simp; omega)) _ | refine Ext.setCell ?_ (by first | (dsimp only; omega) | exact LeS.le | exact LeS.add _ | (simp; done) | (simp; omega)) _)))⟩
      obtain ⟨n0, n1⟩ := inR_iff.1 hr
      have hkt : (o.take k).length = k := by rw [List.length_take]; omega
      rcases hct : hasI (o.take k) n with _ | _
      rotate_left
      · have Hf := Lib.hid (show ordAt l o k = false by rw [ordAt_eq Hn.out, pair_same Hn.out hct]; simp)
        go_wp2_with (first | (go_at_call 89; refine (in_any _ _ _ _).mono ?_; rintro e w' ⟨rfl, rfl⟩) | (go_at_call 112; refine (containsI_any (o.take k) _ n _ ((Ho.out.take (by omega)).up (by repeat (first | exact Ext.refl _ | refine Ext.up ?_ _ | refine Ext.alloc ?_ _ | refine Ext.drew ?_ | refine Ext.setRow ?_ (by first | (dsimp only; omega) | exact LeS.le | exact LeS.add _ | (simp; done) | (simp; omega)) _ | refine Ext.setCell ?_ (by first | (dsimp only; omega) | exact LeS.le | exact LeS.add _ | (simp; done) | (simp; omega)) _)))).mono ?_; rintro e w' ⟨rfl, rfl⟩))
        go_ret
        exact ⟨by rw [Hfin.out, upTo_false hlt Hf.out]; rfl, (.of (by repeat (first | exact Ext.refl _ | refine Ext.up ?_ _ | refine Ext.alloc ?_ _ | refine Ext.drew ?_ | refine Ext.setRow ?_ (by first | (dsimp only; omega) | exact LeS.le | exact LeS.add _ | (simp; done) | (simp; omega)) _ | refine Ext.setCell ?_ (by first | (dsimp only; omega) | exact LeS.le | exact LeS.add _ | (simp; done) | (simp; omega)) _)))⟩
      have Hct := Lib.hid hct
      go_wp2_with (first | (go_at_call 89; refine (in_any _ _ _ _).mono ?_; rintro e w' ⟨rfl, rfl⟩) | (go_at_call 112; refine (containsI_any (o.take k) _ n _ ((Ho.out.take (by omega)).up (by repeat (first | exact Ext.refl _ | refine Ext.up ?_ _ | refine Ext.alloc ?_ _ | refine Ext.drew ?_ | refine Ext.setRow ?_ (by first | (dsimp only; omega) | exact LeS.le | exact LeS.add _ | (simp; done) | (simp; omega)) _ | refine Ext.setCell ?_ (by first | (dsimp only; omega) | exact LeS.le | exact LeS.add _ | (simp; done) | (simp; omega)) _)))).mono ?_; rintro e w' ⟨rfl, rfl⟩))
      go_loopw [8, 43] (fun _ s43 wr => ∃ j : Nat, s43 = .int .i64 j ∧ j ≤ k ∧ upTo (pairOk l o k) j = true ∧ Up w wr) (fun _ s43 _ => k - (intOf s43).toNat)
      case atStart => exact ⟨0, rfl, Nat.zero_le _, rfl, (.of (by repeat (first | exact Ext.refl _ | refine Ext.up ?_ _ | refine Ext.alloc ?_ _ | refine Ext.drew ?_ | refine Ext.setRow ?_ (by first | (dsimp only; omega) | exact LeS.le | exact LeS.add _ | (simp; done) | (simp; omega)) _ | refine Ext.setCell ?_ (by first | (dsimp only; omega) | exact LeS.le | exact LeS.add _ | (simp; done) | (simp; omega)) _)))⟩
      case round =>
        obtain ⟨j, rfl, hj, hpairs, ⟨z2, rfl⟩⟩ := hrel
        by_cases hjt : j < k
        · obtain ⟨m, hmj⟩ := getElem?_some_of_lt (show j < o.length by omega)
          obtain ⟨m0, m1⟩ := ordAt_in Hall.out hjt hmj
          have hmn := ne_of_contains Hct.out hjt hmj
          have d0 : w.cell? ⟨b, off + j, none⟩ = some (.int .i64 m) := by
            obtain ⟨b', off', e, _, hdd⟩ := Hco.out j m hmj
            simp only [Option.some.injEq, Addr.mk.injEq, and_true] at e
            obtain ⟨rfl, rfl⟩ := e
            have := hdd 0 _ rfl; simpa using this
          obtain ⟨x, hx⟩ := getElem?_some_of_lt (show m.toNat < l.length by omega)
          obtain ⟨y, hy⟩ := getElem?_some_of_lt (show n.toNat < l.length by omega)
          have hok1 := actsOk_at Ha.out hx
          have hok2 := actsOk_at Ha.out hy
          obtain ⟨bl, offl, hpl, hbl, _⟩ := Hcl.out _ x hx
          obtain ⟨x0, x1, x2, x3⟩ := acell Hcl.out hpl hx
          obtain ⟨y0, y1, y2, y3⟩ := acell Hcl.out hpl hy
          subst hpl
          have m1' : m < (l.length : Int) := m1
          have n1' : n < (l.length : Int) := by omega
          have Hp := Lib.hid (pairOk_eq (l := l) hmj Hn.out); have Hcf := Lib.hid (cfAt_eq hx hy); have Hpairs := Lib.hid hpairs
          have Hmn := Lib.hid hmn; have Hk1 := Lib.hid hok1; have Hk2 := Lib.hid hok2
          clear hmj hx hy hpairs hmn hok1 hok2
          by_cases hg : n < m
          · have hg' : decide (n < m) = true := by simpa using hg
            rcases hcf : conf x y with _ | _
            · go_wp2_with fail
              (refine wp_region_up (by kernel_rfl) (by kernel_rfl) ?_; (repeat (go_big_quiet_step ((go_at_call 127; exact Calls.up ((hcf ▸ conflicts_any x y _ Hk1.out Hk2.out)))))); refine wpQuiet_nil ?_; intro _ hw'; obtain ⟨zq, hw''⟩ := hw'; subst hw'')
              go_wp2_with fail
              go_roundw
              case rel => exact ⟨j + 1, by go_num, by omega, upTo_succ Hpairs.out (by rw [Hp.out, Hcf.out, hcf]; simpa using Hmn.out), (.of (by repeat (first | exact Ext.refl _ | refine Ext.up ?_ _ | refine Ext.alloc ?_ _ | refine Ext.drew ?_ | refine Ext.setRow ?_ (by first | (dsimp only; omega) | exact LeS.le | exact LeS.add _ | (simp; done) | (simp; omega)) _ | refine Ext.setCell ?_ (by first | (dsimp only; omega) | exact LeS.le | exact LeS.add _ | (simp; done) | (simp; omega)) _)))⟩
              case measure => simp [intOf]; omega
            · go_wp2_with fail
              (refine wp_region_up (by kernel_rfl) (by kernel_rfl) ?_; (repeat (go_big_quiet_step ((go_at_call 127; exact Calls.up ((hcf ▸ conflicts_any x y _ Hk1.out Hk2.out)))))); refine wpQuiet_nil ?_; intro _ hw'; obtain ⟨zq, hw''⟩ := hw'; subst hw'')
              go_wp2_with fail
              go_ret
              refine ⟨?_, (.of (by repeat (first | exact Ext.refl _ | refine Ext.up ?_ _ | refine Ext.alloc ?_ _ | refine Ext.drew ?_ | refine Ext.setRow ?_ (by first | (dsimp only; omega) | exact LeS.le | exact LeS.add _ | (simp; done) | (simp; omega)) _ | refine Ext.setCell ?_ (by first | (dsimp only; omega) | exact LeS.le | exact LeS.add _ | (simp; done) | (simp; omega)) _)))⟩
              have h1 : upTo (pairOk l o k) k = false := upTo_false hjt (by rw [Hp.out, Hcf.out, hcf]; simp [hg])
              rw [Hfin.out, upTo_false hlt (by rw [ordAt_eq Hn.out, h1]; simp)]; rfl
          · have hg' : decide (n < m) = false := by simpa using hg
            go_wp2_with fail
            (refine wp_region_up (by kernel_rfl) (by kernel_rfl) ?_; (repeat (go_big_quiet_step (fail))); refine wpQuiet_nil ?_; intro _ hw'; obtain ⟨zq, hw''⟩ := hw'; subst hw'')
            go_wp2_with fail
            go_roundw
            case rel => exact ⟨j + 1, by go_num, by omega, upTo_succ Hpairs.out (by rw [Hp.out]; simpa [hg] using Hmn.out), (.of (by repeat (first | exact Ext.refl _ | refine Ext.up ?_ _ | refine Ext.alloc ?_ _ | refine Ext.drew ?_ | refine Ext.setRow ?_ (by first | (dsimp only; omega) | exact LeS.le | exact LeS.add _ | (simp; done) | (simp; omega)) _ | refine Ext.setCell ?_ (by first | (dsimp only; omega) | exact LeS.le | exact LeS.add _ | (simp; done) | (simp; omega)) _)))⟩
            case measure => simp [intOf]; omega
        · obtain rfl : j = k := by omega
          have Hpairs := Lib.hid hpairs; clear hpairs
          go_wp2_with fail
          go_roundw
          case rel => exact ⟨j + 1, by go_num, by omega, upTo_succ Hall.out (by rw [ordAt_eq Hn.out, hr, Hpairs.out]; rfl), (.of (by repeat (first | exact Ext.refl _ | refine Ext.up ?_ _ | refine Ext.alloc ?_ _ | refine Ext.drew ?_ | refine Ext.setRow ?_ (by first | (dsimp only; omega) | exact LeS.le | exact LeS.add _ | (simp; done) | (simp; omega)) _ | refine Ext.setCell ?_ (by first | (dsimp only; omega) | exact LeS.le | exact LeS.add _ | (simp; done) | (simp; omega)) _)))⟩
          case measure => simp [intOf]; omega
    · go_wp2_with fail
      go_ret
      obtain rfl : k = o.length := by omega
      exact ⟨by rw [Hfin.out, hall]; rfl, z, rfl⟩
end Go.Proofs.Ytknohbdhbjppjaa
namespace Go.Proofs.Ytknohbdhbjppjaa
open Go Go.RowKit

/-- out = append(out, x), x's cells in the block that was made last. -/
theorem wpList_push1 {P : Program} {t e sz bytes : Nat} (F : AppFacts P t e sz bytes) {ops : Array Oper} {rest : List Oper} {o : Oper} {a : Act} {Q : Exit → Act → World → Prop} (hgd : o.guard = none) (s x : Operand)
    (ho : o.op = .call { callee := .builtin .append, args := #[s, x], argTypes := #[t, t] }) {α : Type} (enc : α → List Value) (Wb : World) {W1 : World} {cs : Array Value} {e' : TypeId} (y : α) (l : List α) {v : Value} (hs : a.eval s = v)
    (hown : Own enc e sz Wb.heap.size W1 v l) (hE : Ext Wb W1) {g : Nat} (hx : a.eval x = .slice (some ⟨g, 0, none⟩) 1 1) (hg : g = W1.heap.size) (hcs : cs.toList = enc y) (hl : (enc y).length = sz)
    (h1 : ∀ u ∈ enc y, u.oneCell' = true) (hb : (l.length + 1) * bytes ≤ 140737488355328) (hb' : l.length + 1 ≤ 9223372036854775807)
    (h : ∀ v' (z1 : Extd Wb), Own enc e sz Wb.heap.size z1.val v' (l ++ [y]) → wpList P ops Q rest (a.put o.dst v') z1.val) : wpList P ops Q (o :: rest) a (W1.alloc (.cells cs e')) := by
  subst hg
  refine wpList_push F hgd s x ho enc Wb y l hs (hown.up ((Ext.refl _).alloc _)) (hE.alloc _) hx hl (fun j u hu => ?_) h1 hb hb' h
  have e1 : (⟨W1.heap.size, 0, none⟩ : Addr).add j = ⟨W1.heap.size, j, none⟩ := by unfold Addr.add; split <;> simp_all
  rw [e1, cell_of_row _ W1.heap.size j cs e' (0, 0) (heap_alloc_new W1 _), ← Array.getElem?_toList, hcs]
  exact hu
theorem Own.kept {α : Type} {enc : α → List Value} {e sz lo : Nat} {w w' : World} {v : Value} {l : List α} {row : Option Nat} (h : Own enc e sz lo w v l) (hg : w.grownBy w' row) (hne : v.ownBlock = none ∨ v.ownBlock ≠ row) : Own enc e sz lo w' v l := World.ownsRow.kept h hg hne
/-- Of two slices the one was there before the other was begun: they share no block. -/
theorem Own.apart {α β : Type} {enc : α → List Value} {enc' : β → List Value} {e sz lo e' sz' lo' : Nat} {w w' : World} {v v' : Value} {l : List α} {l' : List β} (h : Own enc e sz lo w v l) (h' : Own enc' e' sz' lo' w' v' l') (hlt : w.heap.size ≤ lo') : v.ownBlock ≠ v'.ownBlock ∨ v.ownBlock = none := by
  cases hv : v.ownBlock with
  | none => exact .inr rfl
  | some k =>
    left
    intro e
    have h1 := (World.ownsRow.lt h k hv).2
    have h2 := (World.ownsRow.lt h' k e.symm).1
    omega
theorem Own.after {α β : Type} {enc : α → List Value} {enc' : β → List Value} {e sz lo e' sz' lo' : Nat} {w w' : World} {v v' : Value} {l : List α} {l' : List β} (h : Own enc e sz lo w v l) (h' : Own enc' e' sz' lo' w' v' l') (hlt : w'.heap.size ≤ lo) : v.ownBlock = none ∨ v.ownBlock ≠ v'.ownBlock := by
  cases hv : v.ownBlock with
  | none => exact .inl rfl
  | some k =>
    right
    intro e
    have h1 := (World.ownsRow.lt h k hv).1
    have h2 := (World.ownsRow.lt h' k e.symm).2
    omega
theorem Own.ext_grown {α : Type} {enc : α → List Value} {e sz lo : Nat} {a w w' : World} {v : Value} {l : List α} (h : Own enc e sz lo w v l) (hE : Ext a w) (hlo : a.heap.size ≤ lo) (hg : w.grownBy w' v.ownBlock) : Ext a w' :=
  hE.grown hg (fun k hk => Nat.le_trans hlo (World.ownsRow.lt h k hk).1)
theorem oneV (x : Ver) : ∀ u ∈ x.enc, u.oneCell' = true := by simp [Ver.enc, Value.oneCell']
theorem oneE (x : Ent) : ∀ u ∈ x.enc, u.oneCell' = true := by simp [Ent.enc, Value.oneCell']
theorem oneA (x : Actn) : ∀ u ∈ x.enc, u.oneCell' = true := by simp [Actn.enc, Value.oneCell']
theorem oneI (x : Int) : ∀ u ∈ encI x, u.oneCell' = true := by simp [encI, Value.oneCell']
end Go.Proofs.Ytknohbdhbjppjaa
namespace Go.Proofs.Ytknohbdhbjppjaa
open Go Go.RowKit

theorem common_comm (a b : List Int) : common a b = common b a := by
  rw [Bool.eq_iff_iff]; simp only [common, List.any_eq_true, List.contains_iff_mem]
  exact ⟨fun ⟨n, a, b⟩ => ⟨n, b, a⟩, fun ⟨n, a, b⟩ => ⟨n, b, a⟩⟩
theorem conf_comm (x y : Actn) : conf x y = conf y x := by
  unfold conf
  rw [common_comm x.wk y.wk, common_comm x.wk y.rk, common_comm x.rk y.wk]
  cases common y.wk x.wk <;> cases common y.rk x.wk <;> cases common y.wk x.rk <;> rfl
/-- The level of action k as far as the first j tell. -/
def lvlAt (l : List Actn) (out : List Int) (k : Nat) : Nat → Int
  | 0 => 0
  | j + 1 => match l[j]?, l[k]?, out[j]? with
    | some x, some y, some o => if conf x y = true then max (lvlAt l out k j) (o + 1) else lvlAt l out k j
    | _, _, _ => lvlAt l out k j
theorem lvlAt_yes {l : List Actn} {out : List Int} {k j : Nat} {x y : Actn} {o : Int} (hx : l[j]? = some x) (hy : l[k]? = some y) (ho : out[j]? = some o) (h : conf x y = true) : lvlAt l out k (j + 1) = max (lvlAt l out k j) (o + 1) := by
  simp [lvlAt, hx, hy, ho, h]
theorem lvlAt_no {l : List Actn} {out : List Int} {k j : Nat} {x y : Actn} {o : Int} (hx : l[j]? = some x) (hy : l[k]? = some y) (ho : out[j]? = some o) (h : conf x y = false) : lvlAt l out k (j + 1) = lvlAt l out k j := by
  simp [lvlAt, hx, hy, ho, h]
def lvlTo (l : List Actn) : Nat → List Int
  | 0 => []
  | k + 1 => lvlTo l k ++ [lvlAt l (lvlTo l k) k k]
theorem lvlTo_length (l : List Actn) : ∀ k, (lvlTo l k).length = k
  | 0 => rfl
  | k + 1 => by simp [lvlTo, lvlTo_length l k]
theorem lvlAt_in {l : List Actn} {out : List Int} {k : Nat} (h : ∀ o ∈ out, 0 ≤ o ∧ o ≤ 1000) : ∀ j, 0 ≤ lvlAt l out k j ∧ lvlAt l out k j ≤ 1001
  | 0 => by simp [lvlAt]
  | j + 1 => by
    have ih := lvlAt_in (l := l) (k := k) h j
    unfold lvlAt
    split
    · rename_i x y o hx hy ho
      have := h o (List.mem_of_getElem? ho)
      split <;> omega
    · exact ih
theorem lvlAt_le {l : List Actn} {out : List Int} {k : Nat} (m : Int) (hm : 0 ≤ m) (h : ∀ o ∈ out, 0 ≤ o ∧ o < m) : ∀ j, 0 ≤ lvlAt l out k j ∧ lvlAt l out k j ≤ m
  | 0 => by simp [lvlAt]; omega
  | j + 1 => by
    have ih := lvlAt_le (l := l) (k := k) m hm h j
    unfold lvlAt
    split
    · rename_i x y o hx hy ho
      have := h o (List.mem_of_getElem? ho)
      split <;> omega
    · exact ih
theorem lvlTo_in (l : List Actn) : ∀ k, ∀ o ∈ lvlTo l k, 0 ≤ o ∧ o < (k : Int)
  | 0 => by simp [lvlTo]
  | k + 1 => by
    have ih := lvlTo_in l k
    intro o ho
    rw [lvlTo, List.mem_append, List.mem_singleton] at ho
    rcases ho with ho | ho
    · have := ih o ho; omega
    · have := lvlAt_le (l := l) (out := lvlTo l k) (k := k) (k : Int) (by omega) ih k
      omega
theorem lvlTo_pre (l : List Actn) {k m : Nat} (h : k ≤ m) : (lvlTo l m).take k = lvlTo l k := by
  induction m with
  | zero => obtain rfl : k = 0 := by omega
            rfl
  | succ m ih =>
    by_cases hk : k = m + 1
    · subst hk; exact List.take_of_length_le (by rw [lvlTo_length]; omega)
    · rw [lvlTo, List.take_append_of_le_length (by rw [lvlTo_length]; omega), ih (by omega)]
end Go.Proofs.Ytknohbdhbjppjaa
