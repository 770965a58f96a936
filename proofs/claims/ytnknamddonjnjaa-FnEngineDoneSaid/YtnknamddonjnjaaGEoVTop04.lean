/- Plain laws: lists of versions: parts, repeats, what is read of a part. Plain laws: sums of blocks. Plain ground: append where other slices of the call's own lie beside: which block was written. -/
import Derived.Test.YtnknamddonjnjaaGEoVTop02
import Derived.Test.YtnknamddonjnjaaGEoVTop03
import Derived.Test.YtnknamddonjnjaaGEoVTop01
import Derived.Test.YtnknamddonjnjaaGEoVTop00
import Derived.Deep.AppendLies
import Derived.Maps.AppendAt
set_option linter.unusedSimpArgs false
set_option linter.unusedVariables false
namespace Go.Proofs.Ytnknamddonjnjaa
open Go Go.RowKit

theorem versOk_of {l : List Ver} (hs : l.Pairwise fun a b => verLt a b = true) (hin : ∀ x ∈ l, verIn x = true) : versOk l = true := by
  refine upTo_iff.2 fun i hi => ?_
  obtain ⟨x, hx⟩ := getElem?_some_of_lt hi
  have hm := hin x (List.mem_of_getElem? hx)
  by_cases h0 : 0 < i
  · obtain ⟨y, hy⟩ := getElem?_some_of_lt (show i - 1 < l.length by omega)
    rw [verAt_next hx h0 hy, Bool.and_eq_true]
    refine ⟨hm, ?_⟩
    rw [List.pairwise_iff_getElem] at hs
    obtain ⟨h1, h2⟩ := List.getElem?_eq_some_iff.1 hx
    obtain ⟨h3, h4⟩ := List.getElem?_eq_some_iff.1 hy
    have := hs (i - 1) i h3 h1 (by omega)
    rw [h2, h4] at this
    exact this
  · rw [verAt_first hx h0]; exact hm
theorem versOk_iff {l : List Ver} : versOk l = true ↔ l.Pairwise (fun a b => verLt a b = true) ∧ ∀ x ∈ l, verIn x = true :=
  ⟨fun h => ⟨vers_sorted h, fun _ hx => versOk_mem h hx⟩, fun h => versOk_of h.1 h.2⟩
theorem versOk_sub {l m : List Ver} (h : versOk l = true) (hs : m.Sublist l) : versOk m = true :=
  versOk_of ((vers_sorted h).sublist hs) fun _ hx => versOk_mem h (hs.subset hx)
theorem versOk_drop {l : List Ver} (h : versOk l = true) (n : Nat) : versOk (l.drop n) = true := versOk_sub h (List.drop_sublist _ _)
theorem verLt_irr (x : Ver) : verLt x x = false := by
  rcases h : verLt x x with _ | _
  · rfl
  · rw [verLt_iff] at h; omega
theorem versOk_twice {l : List Ver} {x : Ver} (hx : x ∈ l) : versOk (l ++ [x]) = false := by
  rcases h : versOk (l ++ [x]) with _ | _
  · rfl
  · have := vers_sorted h
    rw [List.pairwise_append] at this
    have := this.2.2 x hx x (by simp)
    rw [verLt_irr] at this; cases this
theorem versOk_dropV {l : List Ver} (h : versOk l = true) (b : Int) : versOk (dropV l b) = true := versOk_sub h List.filter_sublist
theorem dropV_twice (l : List Ver) (b : Int) : dropV (dropV l b) b = dropV l b := by
  unfold dropV
  rw [List.filter_filter]; simp
theorem putV_ok {l : List Ver} {by_ : Int} {u : List Ent} (h : putOk l by_ u = true) : versOk (putV l by_ u) = true := by
  simp only [putOk, Bool.and_eq_true, inR_iff] at h
  obtain ⟨h1, ⟨b0, b1⟩, hu⟩ := h
  refine versOk_of (putV_sorted (vers_sorted h1) (asc_of hu)) fun x hx => ?_
  have : x ∈ dropV l by_ ++ u.map (mkV by_) := (putTo_perm by_ u _).mem_iff.1 hx
  rcases List.mem_append.1 this with h | h
  · exact versOk_mem h1 (dropV_ne h).1
  · obtain ⟨e, he, rfl⟩ := List.mem_map.1 h
    have := entsOk_mem hu he
    simp only [verIn, mkV, Bool.and_eq_true, inR_iff]
    omega
/-! ### What is read -/
def earlyV (l : List Ver) (by_ : Int) : List Ver := l.filter fun x => decide (x.b < by_)
theorem earlyV_snoc_in {l : List Ver} {k : Nat} {x : Ver} {b : Int} (h : l[k]? = some x) (hb : x.b < b) : earlyV (l.take (k + 1)) b = earlyV (l.take k) b ++ [x] := by
  rw [List.take_add_one, h]; simp [earlyV, hb]
theorem earlyV_snoc_out {l : List Ver} {k : Nat} {x : Ver} {b : Int} (h : l[k]? = some x) (hb : ¬ x.b < b) : earlyV (l.take (k + 1)) b = earlyV (l.take k) b := by
  rw [List.take_add_one, h]; simp [earlyV, hb]
theorem earlyV_le (l : List Ver) (b : Int) : (earlyV l b).length ≤ l.length := List.length_filter_le _ _
theorem earlyV_ok {l : List Ver} (h : versOk l = true) (b : Int) : versOk (earlyV l b) = true := versOk_sub h List.filter_sublist
theorem readV_early (base : Int) (l : List Ver) (key b : Int) : readV base (earlyV l b) key b = readV base l key b := by
  have key' : ∀ (l : List Ver) (p : Int × Int), (earlyV l b).foldl (rdStep key b) p = l.foldl (rdStep key b) p := by
    intro l
    induction l with
    | nil => intro p; rfl
    | cons x l ih =>
      intro p
      by_cases hx : x.b < b
      · have : earlyV (x :: l) b = x :: earlyV l b := by simp [earlyV, hx]
        rw [this, List.foldl_cons, List.foldl_cons, ih]
      · have : earlyV (x :: l) b = earlyV l b := by simp [earlyV, hx]
        rw [this, List.foldl_cons, ih, rdStep_no2 hx]
  exact key' l (base, -1)
theorem readV_inv {base : Int} {l : List Ver} {key b : Int} (hl : versOk l = true) (hb : 0 ≤ b) (h0 : 0 ≤ base ∧ base ≤ 1000000) :
    (0 ≤ (readV base l key b).1 ∧ (readV base l key b).1 ≤ 1000000) ∧ ((readV base l key b).2 = -1 ∧ (readV base l key b).1 = base ∨ 0 ≤ (readV base l key b).2) ∧ (readV base l key b).2 < b ∧ -1 ≤ (readV base l key b).2 := by
  have key' : ∀ (l : List Ver) (p : Int × Int), (∀ x ∈ l, verIn x = true) → ((0 ≤ p.1 ∧ p.1 ≤ 1000000) ∧ (p.2 = -1 ∧ p.1 = base ∨ 0 ≤ p.2) ∧ p.2 < b ∧ -1 ≤ p.2) →
      (0 ≤ (l.foldl (rdStep key b) p).1 ∧ (l.foldl (rdStep key b) p).1 ≤ 1000000) ∧ ((l.foldl (rdStep key b) p).2 = -1 ∧ (l.foldl (rdStep key b) p).1 = base ∨ 0 ≤ (l.foldl (rdStep key b) p).2) ∧ (l.foldl (rdStep key b) p).2 < b ∧ -1 ≤ (l.foldl (rdStep key b) p).2 := by
    intro l
    induction l with
    | nil => intro p _ h; exact h
    | cons x l ih =>
      intro p hin h
      rw [List.foldl_cons]
      refine ih _ (fun y hy => hin y (by simp [hy])) ?_
      have hx := hin x (by simp)
      simp only [verIn, Bool.and_eq_true, inR_iff] at hx
      unfold rdStep
      split
      · dsimp only; omega
      · exact h
  exact key' l (base, -1) (fun _ hx => versOk_mem hl hx) ⟨h0, .inl ⟨rfl, rfl⟩, by show (-1 : Int) < b; omega, by show (-1 : Int) ≤ -1; decide⟩
theorem rdV_neg {s : List Ent} {l : List Ver} {key by_ : Int} (h : (rdV s l key by_).1 < 0) : rdOk s l key by_ = false := by
  rcases hr : rdOk s l key by_ with _ | _
  · rfl
  · exfalso
    rw [rdV_yes hr] at h
    simp only [rdOk, Bool.and_eq_true, inR_iff] at hr
    have := (readV_inv (base := atK s key) (key := key) (b := by_) hr.2.1 (by omega) (atK_in hr.1 (by omega) key)).1.1
    omega
theorem lastV_in {s : List Ent} {l : List Ver} (hs : entsOk 1 s = true) (hl : versOk l = true) : valsIn (lastV s l) := by
  refine ⟨lastV_length s l, fun x hx => ?_⟩
  obtain ⟨i, _, rfl⟩ := List.mem_map.1 hx
  exact (readV_inv hl (by omega) (atK_in hs (by omega) _)).1
theorem lastV_nil {s : List Ent} (hs : entsOk 1 s = true) : lastV s [] = valsOf s := by
  apply List.ext_getElem?
  intro i
  by_cases hi : i < 32
  · rw [lastV_get s [] hi, valsOf_get hs hi]; rfl
  · rw [List.getElem?_eq_none (by rw [lastV_length]; omega), List.getElem?_eq_none (by rw [valsOf_length]; omega)]
theorem lastR_nil {s : List Ent} (hs : entsOk 1 s = true) : lastR s [] = s := by
  rw [lastR_yes (by rw [hs]; rfl), lastV_nil hs, storeOf_valsOf hs]
theorem atK_lastR {s : List Ent} {l : List Ver} (hs : entsOk 1 s = true) (hl : versOk l = true) {n : Nat} (hn : n < 32) : atK (lastR s l) n = (rdV s l n 10).1 := by
  rw [lastR_yes (by rw [hs, hl]; rfl), atK_storeOf (lastV_in hs hl) hn, rdV_yes (by simp only [rdOk, hs, hl, Bool.true_and, Bool.and_eq_true, inR_iff]; omega), List.getD_eq_getElem?_getD, lastV_get s l hn]
  rfl
theorem lastR_ok {s : List Ent} {l : List Ver} (hs : entsOk 1 s = true) (hl : versOk l = true) : entsOk 1 (lastR s l) = true := by
  rw [lastR_yes (by rw [hs, hl]; rfl)]; exact storeOf_ok (lastV_in hs hl)
end Go.Proofs.Ytnknamddonjnjaa
namespace Go.Proofs.Ytnknamddonjnjaa
open Go Go.RowKit

theorem summed_iff {l : List Int} : summed l = true ↔ ∀ n ∈ l, 0 ≤ n ∧ n ≤ 2000000 := by simp [summed, inR_iff]
theorem summed_at {l : List Int} (h : summed l = true) {k : Nat} {n : Int} (hn : l[k]? = some n) : 0 ≤ n ∧ n ≤ 2000000 := summed_iff.1 h n (List.mem_of_getElem? hn)
theorem sumOf_yes {tag : Int} {l : List Int} (h0 : 0 ≤ tag) (h9 : tag ≤ 9) (h : summed l = true) : sumOf tag l = sumL (17 + tag) l := by
  unfold sumOf; rw [if_pos (by simp [h, inR]; omega)]
theorem sumOf_no {tag : Int} {l : List Int} (h : summed l = false) : sumOf tag l = -1 := by unfold sumOf; rw [if_neg (by simp [h])]
theorem sumOf_tag {tag : Int} {l : List Int} (h : inR tag 0 9 = false) : sumOf tag l = -1 := by unfold sumOf; rw [if_neg (by simp [h])]
theorem sumTo_in {tag : Int} (h0 : 0 ≤ tag) (h9 : tag ≤ 9) (l : List Int) : 0 ≤ sumL (17 + tag) l ∧ sumL (17 + tag) l < 1000003 := sumL_in (by omega) (by omega) l
def aNums (l : List Actn) : List Int := l.flatMap fun x => [x.kind, x.src, x.dst, x.amt]
theorem aNums_snoc {l : List Actn} {k : Nat} {x : Actn} (h : l[k]? = some x) : aNums (l.take (k + 1)) = aNums (l.take k) ++ [x.kind, x.src, x.dst, x.amt] := by
  rw [List.take_add_one, h]; simp [aNums]
theorem aNums_length (l : List Actn) : (aNums l).length = 4 * l.length := by
  induction l with
  | nil => rfl
  | cons x l ih => simp [aNums, List.flatMap_cons] at *; omega
theorem Actn.ok_kind {x : Actn} (h : x.ok = true) : 1 ≤ x.kind ∧ x.kind ≤ 6 := by
  simp only [Actn.ok, Bool.and_eq_true] at h
  have := h.2.2.2
  unfold kindOk at this
  split at this
  · omega
  · split at this
    · omega
    · simp at this; omega
theorem aNums_summed {l : List Actn} (h : ∀ x ∈ l, x.ok = true) : summed (aNums l) = true := by
  rw [summed_iff]
  intro n hn
  simp only [aNums, List.mem_flatMap] at hn
  obtain ⟨x, hx, hn⟩ := hn
  have h1 := h x hx
  have h2 := Actn.ok_kind h1
  simp only [Actn.ok, Bool.and_eq_true, inR_iff] at h1
  simp at hn
  omega
theorem summed_append {a b : List Int} (h : summed a = true) (h' : summed b = true) : summed (a ++ b) = true := by
  rw [summed_iff] at *; intro n hn; rcases List.mem_append.1 hn with h1 | h1
  · exact h n h1
  · exact h' n h1
/-- append of several elements just built. -/
theorem wpList_pushL {P : Program} {t e sz bytes : Nat} (F : AppFacts P t e sz bytes) {ops : Array Oper} {rest : List Oper} {o : Oper} {a : Act} {Q : Exit → Act → World → Prop} (hgd : o.guard = none) (s x : Operand)
    (ho : o.op = .call { callee := .builtin .append, args := #[s, x], argTypes := #[t, t] }) {α : Type} (enc : α → List Value) (he : ∀ x, (enc x).length = sz) (Wb : World) {W1 : World} {cs : Array Value} {e' : TypeId} (ys : List α) (l : List α) {v : Value} (hs : a.eval s = v)
    (hown : Own enc e sz Wb.heap.size W1 v l) (hE : Ext Wb W1) {g m c : Nat} (hx : a.eval x = .slice (some ⟨g, 0, none⟩) m c) (hm : m = ys.length) (hg : g = W1.heap.size) (hcs : cs.toList = ys.flatMap enc)
    (h1 : ∀ u ∈ ys.flatMap enc, u.oneCell' = true) (hb : (l.length + ys.length) * bytes ≤ 140737488355328) (hb' : l.length + ys.length ≤ 9223372036854775807)
    (h : ∀ v' (z1 : Extd Wb), Own enc e sz Wb.heap.size z1.val v' (l ++ ys) → wpList P ops Q rest (a.put o.dst v') z1.val) : wpList P ops Q (o :: rest) a (W1.alloc (.cells cs e')) := by
  subst hg; subst hm
  obtain ⟨i, z, hi, hz, hsize, hby, hzs⟩ := F.info
  have hown' : (W1.alloc (.cells cs e')).ownsRow Wb.heap.size e sz v l.length (l.flatMap enc) := hown.up ((Ext.refl _).alloc _)
  have hE' := hE.alloc (.cells cs e')
  refine wpList_append_own _ hgd s x t ho Wb.heap.size e i z sz bytes F.und hi hz hsize hby hzs F.pos v l.length (l.flatMap enc) hs hown' ⟨W1.heap.size, 0, none⟩ ys.length c (ys.flatMap enc) hx (flatMap_length he ys) (fun j u hu => ?_) h1 (by simpa [maxLen] using hb') hb hE'.size ?_
  · have e1 : (⟨W1.heap.size, 0, none⟩ : Addr).add j = ⟨W1.heap.size, j, none⟩ := by unfold Addr.add; split <;> simp_all
    rw [e1, cell_of_row _ W1.heap.size j cs e' (0, 0) (heap_alloc_new W1 _), ← Array.getElem?_toList, hcs]
    exact hu
  · intro v' w1 hown1 hg1 _
    refine h v' ⟨w1, hE'.grown hg1 fun k hk => (World.ownsRow.lt hown' k hk).1⟩ ?_
    show w1.ownsRow _ _ _ _ _ _
    simpa [Own] using hown1
/-- .. in a region that draws its order. -/
theorem step_pushL {P : Program} {t e sz bytes : Nat} (F : AppFacts P t e sz bytes) {ops : Array Oper} {o : Oper} {a : Act} {K : Act → World → Prop} {Q : Exit → Act → World → Prop} {E : Prop} (hgd : o.guard = none) (s x : Operand)
    (ho : o.op = .call { callee := .builtin .append, args := #[s, x], argTypes := #[t, t] }) {α : Type} (enc : α → List Value) (he : ∀ x, (enc x).length = sz) (Wb : World) {W1 : World} {cs : Array Value} {e' : TypeId} (ys : List α) (l : List α) {v : Value} (hs : a.eval s = v)
    (hown : Own enc e sz Wb.heap.size W1 v l) (hE : Ext Wb W1) {g m c : Nat} (hx : a.eval x = .slice (some ⟨g, 0, none⟩) m c) (hm : m = ys.length) (hm0 : 0 < m) (hg : g = W1.heap.size) (hcs : cs.toList = ys.flatMap enc)
    (h1 : ∀ u ∈ ys.flatMap enc, u.oneCell' = true) (hb : (l.length + ys.length) * bytes ≤ 140737488355328) (hb' : l.length + ys.length ≤ 9223372036854775807)
    (h : ∀ v' (z1 : Extd Wb), Own enc e sz Wb.heap.size z1.val v' (l ++ ys) → K (a.put o.dst v') z1.val) :
    if Region.wanted o (yielded ops a.tmps) = true then Oper.wp P o a (W1.alloc (.cells cs e')).drew K Q else E := by
  subst hg; subst hm
  obtain ⟨i, z, hi, hz, hsize, hby, hzs⟩ := F.info
  have hown' : (W1.alloc (.cells cs e')).drew.ownsRow Wb.heap.size e sz v l.length (l.flatMap enc) := hown.up ((Ext.refl _).alloc _).drew
  have hE' := (hE.alloc (.cells cs e')).drew
  refine step_append_lies _ hgd s x t ho Wb.heap.size e i z sz bytes F.und hi hz hsize hby hzs F.pos v l.length (l.flatMap enc) hs hown' ⟨W1.heap.size, 0, none⟩ ys.length c (ys.flatMap enc) hx (flatMap_length he ys) (fun j u hu => ?_) h1 hm0 (by simpa [maxLen] using hb') hb hE'.size _ rfl ?_
  · have e1 : (⟨W1.heap.size, 0, none⟩ : Addr).add j = ⟨W1.heap.size, j, none⟩ := by unfold Addr.add; split <;> simp_all
    rw [e1, cell_of_row (W1.alloc (.cells cs e')).drew W1.heap.size j cs e' (0, 0) (heap_alloc_new W1 _), ← Array.getElem?_toList, hcs]
    exact hu
  · intro g cap w1 hown1 hg1 _ _
    refine h _ ⟨w1, hE'.grown hg1 fun k hk => (World.ownsRow.lt hown' k hk).1⟩ ?_
    show w1.ownsRow _ _ _ _ _ _
    simpa [Own] using hown1
theorem oneIs (l : List Int) : ∀ u ∈ l.flatMap encI, u.oneCell' = true := by
  intro u hu
  obtain ⟨x, _, h⟩ := List.mem_flatMap.1 hu
  exact oneI x u h
end Go.Proofs.Ytnknamddonjnjaa
namespace Go.Proofs.Ytnknamddonjnjaa
open Go Go.RowKit

/-- Two slices share no block. -/
def Apart (v v' : Value) : Prop := v.ownBlock = none ∨ v.ownBlock ≠ v'.ownBlock
theorem Apart.symm {v v' : Value} (h : Apart v v') : Apart v' v := by
  unfold Apart at *
  cases hv : v'.ownBlock with
  | none => exact .inl rfl
  | some k =>
    right
    rcases h with h | h
    · rw [h]; simp
    · rw [hv] at h; exact fun e => h e.symm
theorem Apart.nil (v : Value) (n c : Nat) : Apart (.slice none n c) v := .inl rfl
theorem Apart.nil' (v : Value) (n c : Nat) : Apart v (.slice none n c) := (Apart.nil v n c).symm
/-- What was grown keeps what lies apart. -/
theorem Own.keep {α : Type} {enc : α → List Value} {e sz lo : Nat} {w w' : World} {v v0 : Value} {l : List α} (h : Own enc e sz lo w v l) (hg : w.grownBy w' v0.ownBlock) (ha : Apart v v0) : Own enc e sz lo w' v l := Own.kept h hg ha
/-- A slice that was there lies apart from what an append gives, if it lay apart from what was appended to. -/
theorem Apart.grown {α : Type} {enc : α → List Value} {e sz lo : Nat} {w : World} {v v0 v1 : Value} {l : List α} (h : Own enc e sz lo w v l) (ha : Apart v v0) {n : Nat} (hn : w.heap.size ≤ n) (hb : v1.ownBlock = v0.ownBlock ∨ v1.ownBlock = some n) : Apart v v1 := by
  unfold Apart at *
  rcases hb with hb | hb
  · rw [hb]; exact ha
  · cases hv : v.ownBlock with
    | none => exact .inl rfl
    | some k =>
      right; rw [hb]; intro e
      have := (World.ownsRow.lt h k hv).2
      simp only [Option.some.injEq] at e
      omega
/-- A slice made new lies apart from what was there. -/
theorem Apart.lit {α : Type} {enc : α → List Value} {e sz lo : Nat} {w : World} {v : Value} {l : List α} (h : Own enc e sz lo w v l) {g n c : Nat} (hg : w.heap.size ≤ g) : Apart v (.slice (some ⟨g, 0, none⟩) n c) := by
  unfold Apart
  cases hv : v.ownBlock with
  | none => exact .inl rfl
  | some k =>
    right; intro e
    have := (World.ownsRow.lt h k hv).2
    have e' : k = g := by simpa [Value.ownBlock] using e
    omega
theorem wpList_pushG {P : Program} {t e sz bytes : Nat} (F : AppFacts P t e sz bytes) {ops : Array Oper} {rest : List Oper} {o : Oper} {a : Act} {Q : Exit → Act → World → Prop} (hgd : o.guard = none) (s x : Operand)
    (ho : o.op = .call { callee := .builtin .append, args := #[s, x], argTypes := #[t, t] }) {α : Type} (enc : α → List Value) (he : ∀ x, (enc x).length = sz) (Wb : World) {lo : Nat} {W1 : World} {cs : Array Value} {e' : TypeId} (ys : List α) (l : List α) {v : Value} (hs : a.eval s = v)
    (hown : Own enc e sz lo W1 v l) (hE : Ext Wb W1) (hlo : Wb.heap.size ≤ lo) (hlo' : lo ≤ W1.heap.size) {g m c : Nat} (hx : a.eval x = .slice (some ⟨g, 0, none⟩) m c) (hm : m = ys.length) (hg : g = W1.heap.size) (hcs : cs.toList = ys.flatMap enc)
    (h1 : ∀ u ∈ ys.flatMap enc, u.oneCell' = true) (hb : (l.length + ys.length) * bytes ≤ 140737488355328) (hb' : l.length + ys.length ≤ 9223372036854775807)
    (h : ∀ v' (z1 : Extd Wb), Own enc e sz lo z1.val v' (l ++ ys) → (W1.alloc (.cells cs e')).grownBy z1.val v.ownBlock → (v'.ownBlock = v.ownBlock ∨ v'.ownBlock = some (W1.alloc (.cells cs e')).heap.size) → wpList P ops Q rest (a.put o.dst v') z1.val) : wpList P ops Q (o :: rest) a (W1.alloc (.cells cs e')) := by
  subst hg; subst hm
  obtain ⟨i, z, hi, hz, hsize, hby, hzs⟩ := F.info
  have hown' : (W1.alloc (.cells cs e')).ownsRow lo e sz v l.length (l.flatMap enc) := hown.up ((Ext.refl _).alloc _)
  have hE' := hE.alloc (.cells cs e')
  refine wpList_append_own_at _ hgd s x t ho lo e i z sz bytes F.und hi hz hsize hby hzs F.pos v l.length (l.flatMap enc) hs hown' ⟨W1.heap.size, 0, none⟩ ys.length c (ys.flatMap enc) hx (flatMap_length he ys) (fun j u hu => ?_) h1 (by simpa [maxLen] using hb') hb (by simp; omega) ?_
  · have e1 : (⟨W1.heap.size, 0, none⟩ : Addr).add j = ⟨W1.heap.size, j, none⟩ := by unfold Addr.add; split <;> simp_all
    rw [e1, cell_of_row _ W1.heap.size j cs e' (0, 0) (heap_alloc_new W1 _), ← Array.getElem?_toList, hcs]
    exact hu
  · intro v' w1 hown1 hg1 _ hblk
    refine h v' ⟨w1, hE'.grown hg1 fun k hk => Nat.le_trans hlo (World.ownsRow.lt hown' k hk).1⟩ ?_ hg1 hblk
    show w1.ownsRow _ _ _ _ _ _
    simpa [Own] using hown1
/-- .. in a region that draws its order: at whatever world that holds the new elements in block g. -/
theorem step_pushG {P : Program} {t e sz bytes : Nat} (F : AppFacts P t e sz bytes) {ops : Array Oper} {o : Oper} {a : Act} {K : Act → World → Prop} {Q : Exit → Act → World → Prop} {E : Prop} (hgd : o.guard = none) (s x : Operand)
    (ho : o.op = .call { callee := .builtin .append, args := #[s, x], argTypes := #[t, t] }) {α : Type} (enc : α → List Value) (he : ∀ x, (enc x).length = sz) (Wb : World) {lo : Nat} {W : World} {cs : Array Value} {e' : TypeId} {fr : Nat × Nat} (ys : List α) (l : List α) {v : Value} (hs : a.eval s = v)
    {g m c : Nat} (hx : a.eval x = .slice (some ⟨g, 0, none⟩) m c) (hg : W.heap[g]? = some (.cells cs e' fr)) (hown : Own enc e sz lo W v l) (hE : Ext Wb W) (hlo : Wb.heap.size ≤ lo) (hlo' : lo ≤ W.heap.size) (hm : m = ys.length) (hm0 : 0 < m) (hcs : cs.toList = ys.flatMap enc)
    (h1 : ∀ u ∈ ys.flatMap enc, u.oneCell' = true) (hb : (l.length + ys.length) * bytes ≤ 140737488355328) (hb' : l.length + ys.length ≤ 9223372036854775807)
    (h : ∀ v' (z1 : Extd Wb), Own enc e sz lo z1.val v' (l ++ ys) → W.grownBy z1.val v.ownBlock → (v'.ownBlock = v.ownBlock ∨ v'.ownBlock = some W.heap.size) → K (a.put o.dst v') z1.val) :
    if Region.wanted o (yielded ops a.tmps) = true then Oper.wp P o a W K Q else E := by
  subst hm
  obtain ⟨i, z, hi, hz, hsize, hby, hzs⟩ := F.info
  refine step_append_lies _ hgd s x t ho lo e i z sz bytes F.und hi hz hsize hby hzs F.pos v l.length (l.flatMap enc) hs hown ⟨g, 0, none⟩ ys.length c (ys.flatMap enc) hx (flatMap_length he ys) (fun j u hu => ?_) h1 hm0 (by simpa [maxLen] using hb') hb hlo' _ rfl ?_
  · have e1 : (⟨g, 0, none⟩ : Addr).add j = ⟨g, j, none⟩ := by unfold Addr.add; split <;> simp_all
    rw [e1, cell_of_row W g j cs e' fr hg, ← Array.getElem?_toList, hcs]
    exact hu
  · intro g cap w1 hown1 hg1 hblk _
    refine h _ ⟨w1, hE.grown hg1 fun k hk => Nat.le_trans hlo (World.ownsRow.lt hown k hk).1⟩ ?_ hg1 ?_
    · show w1.ownsRow _ _ _ _ _ _
      simpa [Own] using hown1
    · rcases hblk with hb1 | hb1
      · left; rw [hb1]; rfl
      · right; rw [hb1]; rfl
/-- Slices as elements. -/
def encV (v : Value) : List Value := [v]
theorem encV_length (v : Value) : (encV v).length = 1 := rfl
theorem Own.cellI {e lo g off n c : Nat} {w : World} {l : List Int} (h : Own encI e 1 lo w (.slice (some ⟨g, off, none⟩) n c) l) {j : Nat} {a : Int} (ha : l[j]? = some a) : w.cell? ⟨g, off + j, none⟩ = some (.int .i64 a) := by
  obtain ⟨p9, c9, e9, _, hc9⟩ := (h.sl encI_length).open
  cases e9
  obtain ⟨g4, off4, hp4, _, hca⟩ := hc9 j a ha
  cases hp4
  have := hca 0 _ rfl; simpa using this
/-- s[i:i+m]. -/
theorem SL.sub {α : Type} {R : World → List Value → α → Prop} {sz : Nat} {w : World} {b off n cap : Nat} {l : List α} (h : SL R sz w (.slice (some ⟨b, off, none⟩) n cap) l) {i m : Nat} (hi : i + m ≤ l.length) {cap' : Nat} (hc : m ≤ cap') : SL R sz w (.slice (some ⟨b, off + i * sz, none⟩) m cap') ((l.drop i).take m) := by
  obtain ⟨a', c', hv, hl, hcells⟩ := h
  cases hv
  have e : ((l.drop i).take m).length = m := by rw [List.length_take, List.length_drop]; omega
  refine ⟨_, cap', by rw [e], ⟨by rw [e]; omega, by rw [e]; exact hc⟩, fun hne => ?_⟩
  obtain ⟨b', off', ha, hb, hx⟩ := hcells (by intro e0; subst e0; simp at hne)
  cases ha
  refine ⟨b, off + i * sz, rfl, hb, fun j x hj => ?_⟩
  have hjm : j < m := by have := (List.getElem?_eq_some_iff.1 hj).1; omega
  rw [List.getElem?_take_of_lt hjm, List.getElem?_drop] at hj
  obtain ⟨cs, h1, h2, h3⟩ := hx _ x hj
  refine ⟨cs, h1, fun q u hu => ?_, h3⟩
  have := h2 q u hu
  rwa [Nat.add_mul, ← Nat.add_assoc] at this
end Go.Proofs.Ytnknamddonjnjaa
