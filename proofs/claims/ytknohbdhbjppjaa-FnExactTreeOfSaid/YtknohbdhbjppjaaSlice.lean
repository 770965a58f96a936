/- Plain ground: slices of flat elements (each element's cells are given by a function enc): read, and of the call's own; the laws for append and make on them. -/
import Derived.Test.YtknohbdhbjppjaaBase
namespace Go.Proofs.Ytknohbdhbjppjaa
open Go Go.RowKit

/-- The element's cells are enc's. -/
def RF {α : Type} (enc : α → List Value) (_ : World) (cs : List Value) (x : α) : Prop := cs = enc x
theorem RF.mono {α : Type} (enc : α → List Value) : Mono (RF enc) := fun _ _ _ _ _ h => h

theorem SL.open {α : Type} {enc : α → List Value} {sz : Nat} {w : World} {v : Value} {l : List α} (h : SL (RF enc) sz w v l) :
    ∃ a cap, v = .slice a l.length cap ∧ l.length ≤ 9223372036854775807 ∧ ∀ (k : Nat) x, l[k]? = some x → ∃ b off, a = some ⟨b, off, none⟩ ∧ LtS b w ∧ ∀ j u, (enc x)[j]? = some u → w.cell? ⟨b, off + k * sz + j, none⟩ = some u := by
  obtain ⟨a, cap, hv, hl, hc⟩ := h
  refine ⟨a, cap, hv, hl.1, fun k x hk => ?_⟩
  obtain ⟨b, off, ha, hb, hx⟩ := hc (by intro e; subst e; simp at hk)
  obtain ⟨cs, _, h2, rfl⟩ := hx k x hk
  exact ⟨b, off, ha, hb, h2⟩
/-- .. and the capacity is no less than the length. -/
theorem SL.openc {α : Type} {R : World → List Value → α → Prop} {sz : Nat} {w : World} {v : Value} {l : List α} (h : SL R sz w v l) :
    ∃ a cap, v = .slice a l.length cap ∧ l.length ≤ 9223372036854775807 ∧ l.length ≤ cap := by
  obtain ⟨a, cap, hv, hl, hc⟩ := h
  exact ⟨a, cap, hv, hl.1, hl.2⟩
/-- The first k elements: s[:k]. -/
theorem SL.take {α : Type} {R : World → List Value → α → Prop} {sz : Nat} {w : World} {a : Option Addr} {n cap : Nat} {l : List α} (h : SL R sz w (.slice a n cap) l) {k : Nat} (hk : k ≤ l.length) : SL R sz w (.slice a k cap) (l.take k) := by
  obtain ⟨a', cap', hv, hl, hc⟩ := h
  cases hv
  have e : (l.take k).length = k := by rw [List.length_take]; omega
  refine ⟨a, cap, by rw [e], ⟨by rw [e]; omega, by rw [e]; omega⟩, fun hne => ?_⟩
  obtain ⟨b, off, ha, hb, hx⟩ := hc (by intro e0; subst e0; simp at hne)
  refine ⟨b, off, ha, hb, fun i x hi => hx i x ?_⟩
  have hik : i < k := by have := (List.getElem?_eq_some_iff.1 hi).1; omega
  rwa [List.getElem?_take_of_lt hik] at hi

theorem SL.up {α : Type} {enc : α → List Value} {sz : Nat} {w : World} {v : Value} {l : List α} (h : SL (RF enc) sz w v l) {w' : World} (hE : Ext w w') : SL (RF enc) sz w' v l := h.ext (RF.mono enc) hE

/-- A slice of the call's own, of flat elements. -/
def Own {α : Type} (enc : α → List Value) (e sz lo : Nat) (w : World) (v : Value) (l : List α) : Prop := w.ownsRow lo e sz v l.length (l.flatMap enc)

theorem flatMap_length {α : Type} {enc : α → List Value} {sz : Nat} (he : ∀ x, (enc x).length = sz) (l : List α) : (l.flatMap enc).length = l.length * sz := by
  induction l with
  | nil => simp
  | cons x l ih => simp [ih, he, Nat.add_mul, Nat.add_comm]

theorem flatMap_get {α : Type} {enc : α → List Value} {sz : Nat} (he : ∀ x, (enc x).length = sz) : ∀ {l : List α} {k : Nat} {x : α}, l[k]? = some x → ∀ {j : Nat} {u : Value}, (enc x)[j]? = some u → (l.flatMap enc)[k * sz + j]? = some u
  | [], k, x, h, j, u, _ => by simp at h
  | y :: l, 0, x, h, j, u, hu => by
    simp at h; subst h
    rw [List.flatMap_cons, List.getElem?_append_left (by have := (List.getElem?_eq_some_iff.1 hu).1; omega)]
    simpa using hu
  | y :: l, k + 1, x, h, j, u, hu => by
    simp at h
    rw [List.flatMap_cons, List.getElem?_append_right (by rw [he, Nat.succ_mul]; omega), he, show (k + 1) * sz + j - sz = k * sz + j from by rw [Nat.succ_mul]; omega]
    exact flatMap_get he h hu

theorem Own.sl {α : Type} {enc : α → List Value} {e sz lo : Nat} (he : ∀ x, (enc x).length = sz) {w : World} {v : Value} {l : List α} (h : Own enc e sz lo w v l) : SL (RF enc) sz w v l := by
  rcases h.2 with ⟨rfl, hn⟩ | ⟨g, cap, cur, rfl, hlo, hg, hnc, hcm, hcs, htake⟩
  · have : l = [] := List.eq_nil_of_length_eq_zero hn
    subst this; exact SL.nil _ _ _ _ _
  · refine ⟨_, cap, rfl, ⟨by simp only [maxLen] at hcm; omega, hnc⟩, fun hne => ⟨g, 0, rfl, ⟨(Array.getElem?_eq_some_iff.1 hg).1⟩, fun i x hi => ⟨enc x, he x, fun j u hu => ?_, rfl⟩⟩⟩
    have h1 := flatMap_get he hi hu
    rw [← htake] at h1
    rw [List.getElem?_take] at h1
    split at h1
    · rw [cell_of_row w g _ cur e (0, 0) hg]; simpa using h1
    · cases h1

theorem Own.nil {α : Type} (enc : α → List Value) (e sz lo : Nat) (w : World) : Own enc e sz lo w (.slice none 0 0) [] := World.ownsRow_nil w lo e sz
theorem Own.up {α : Type} {enc : α → List Value} {e sz lo : Nat} {w : World} {v : Value} {l : List α} (h : Own enc e sz lo w v l) {w' : World} (hE : Ext w w') : Own enc e sz lo w' v l := by
  refine ⟨h.1, ?_⟩
  rcases h.2 with h2 | ⟨g, cap, cur, hv, hlo, hg, r⟩
  · exact .inl h2
  · exact .inr ⟨g, cap, cur, hv, hlo, (hE.block (Array.getElem?_eq_some_iff.1 hg).1).trans hg, r⟩
theorem Own.lo {α : Type} {enc : α → List Value} {e sz lo lo' : Nat} {w : World} {v : Value} {l : List α} (h : Own enc e sz lo w v l) (hlo : lo' ≤ lo) : Own enc e sz lo' w v l := by
  refine ⟨h.1, ?_⟩
  rcases h.2 with h2 | ⟨g, cap, cur, hv, h1, r⟩
  · exact .inl h2
  · exact .inr ⟨g, cap, cur, hv, Nat.le_trans hlo h1, r⟩

theorem Own.lit {α : Type} {enc : α → List Value} {e sz lo : Nat} {w : World} {cs : Array Value} {n g : Nat} {l : List α} (hg : g = w.heap.size) (hlo : lo ≤ w.heap.size) (hn : n = l.length) (hcs : cs.toList = l.flatMap enc) (he : ∀ x, (enc x).length = sz) (hm : l.length ≤ 9223372036854775807) :
    Own enc e sz lo (w.alloc (.cells cs e)) (.slice (some ⟨g, 0, none⟩) n n) l := by
  subst hg; subst hn
  have hs : cs.size = l.length * sz := by rw [← Array.length_toList, hcs, flatMap_length he]
  have h := World.ownsRow_lit (base := lo) (e := e) (size := sz) w cs l.length hlo (by simpa [maxLen] using hm) hs
  rw [hcs] at h
  exact h
/-- What append asks of a slice type, once a type. -/
structure AppFacts (P : Program) (t e sz bytes : Nat) : Prop where
  und : P.underlying t = some (.slice e)
  info : ∃ i z, P.info? e = some i ∧ i.zero = some z ∧ i.size = sz ∧ i.bytes = bytes ∧ z.cells.size = sz
  pos : 0 < sz

/-- out = append(out, x): one element more, whatever the capacity. Wb: the world whose blocks stay. -/
theorem wpList_push {P : Program} {t e sz bytes : Nat} (F : AppFacts P t e sz bytes) {ops : Array Oper} {rest : List Oper} {o : Oper} {a : Act} {w : World} {Q : Exit → Act → World → Prop} (hgd : o.guard = none) (s x : Operand)
    (ho : o.op = .call { callee := .builtin .append, args := #[s, x], argTypes := #[t, t] }) {α : Type} (enc : α → List Value) (Wb : World) (y : α) (l : List α) {v : Value} (hs : a.eval s = v)
    (hown : Own enc e sz Wb.heap.size w v l) (hE : Ext Wb w) {ad : Addr} {c : Nat} (hx : a.eval x = .slice (some ad) 1 c) (hl : (enc y).length = sz)
    (hnews : ∀ j u, (enc y)[j]? = some u → w.cell? (ad.add j) = some u) (h1 : ∀ u ∈ enc y, u.oneCell' = true) (hb : (l.length + 1) * bytes ≤ 140737488355328) (hb' : l.length + 1 ≤ 9223372036854775807)
    (h : ∀ v' (z1 : Extd Wb), Own enc e sz Wb.heap.size z1.val v' (l ++ [y]) → wpList P ops Q rest (a.put o.dst v') z1.val) : wpList P ops Q (o :: rest) a w := by
  obtain ⟨i, z, hi, hz, hsize, hby, hzs⟩ := F.info
  refine wpList_append_own w hgd s x t ho Wb.heap.size e i z sz bytes F.und hi hz hsize hby hzs F.pos v l.length (l.flatMap enc) hs hown ad 1 c (enc y) hx (by rw [hl]; omega) hnews h1 (by simpa [maxLen] using hb') hb hE.size ?_
  intro v' w1 hown1 hg _
  refine h v' ⟨w1, hE.grown hg fun k hk => (hown.lt k hk).1⟩ ?_
  show w1.ownsRow _ _ _ _ _ _
  simpa [Own] using hown1

/-! ### A row that is filled element by element -/
def setAll (xs : List Value) (m : Nat) : List Value → List Value
  | [] => xs
  | c :: cs => setAll (xs.set m c) (m + 1) cs
def setAllW (w : World) (g m : Nat) : List Value → World
  | [] => w
  | c :: cs => setAllW (w.setCell ⟨g, m, none⟩ c) g (m + 1) cs
theorem setAll_length (cs : List Value) : ∀ (xs : List Value) (m : Nat), (setAll xs m cs).length = xs.length := by
  induction cs with
  | nil => intro xs m; rfl
  | cons c cs ih => intro xs m; simp [setAll, ih]
theorem setAll_get (cs : List Value) : ∀ (xs : List Value) (m i : Nat), m + cs.length ≤ xs.length → (setAll xs m cs)[i]? = if m ≤ i ∧ i < m + cs.length then cs[i - m]? else xs[i]? := by
  induction cs with
  | nil => intro xs m i _; rw [if_neg (by simp)]; rfl
  | cons c cs ih =>
    intro xs m i h
    simp only [List.length_cons] at h
    rw [setAll, ih _ _ _ (by simp; omega)]
    by_cases h1 : m + 1 ≤ i ∧ i < m + 1 + cs.length
    · rw [if_pos h1, if_pos (by simp; omega), show i - m = i - (m + 1) + 1 from by omega]; simp
    · rw [if_neg h1]
      by_cases h2 : i = m
      · subst h2; rw [if_pos (by simp only [List.length_cons]; omega), Nat.sub_self, List.getElem?_set_self (by omega)]; rfl
      · rw [if_neg (by simp; omega), List.getElem?_set_ne (by omega)]
/-- The first k elements of l stand in xs. -/
def Filled {α : Type} (enc : α → List Value) (sz : Nat) (l : List α) (k : Nat) (xs : List Value) : Prop := ∀ i x, i < k → l[i]? = some x → ∀ j u, (enc x)[j]? = some u → xs[i * sz + j]? = some u
theorem Filled.zero {α : Type} (enc : α → List Value) (sz : Nat) (l : List α) (xs : List Value) : Filled enc sz l 0 xs := fun _ _ h => absurd h (Nat.not_lt_zero _)
theorem Filled.next {α : Type} {enc : α → List Value} {sz : Nat} (he : ∀ x, (enc x).length = sz) {l : List α} {k : Nat} {xs : List Value} {x : α} (hx : l[k]? = some x) (hlen : xs.length = l.length * sz) (h : Filled enc sz l k xs) :
    Filled enc sz l (k + 1) (setAll xs (k * sz) (enc x)) := by
  intro i y hi hy j u hu
  have hj : j < sz := by have := (List.getElem?_eq_some_iff.1 hu).1; rw [he] at this; exact this
  have hk : k < l.length := (List.getElem?_eq_some_iff.1 hx).1
  have hkl : k * sz + sz ≤ xs.length := by rw [hlen, ← Nat.succ_mul]; exact Nat.mul_le_mul_right _ hk
  rw [setAll_get _ _ _ _ (by rw [he]; exact hkl)]
  by_cases hik : i = k
  · subst hik
    rw [hx] at hy; cases hy
    rw [if_pos (by rw [he]; omega), show i * sz + j - i * sz = j from by omega]; exact hu
  · have : i * sz + sz ≤ k * sz := by rw [← Nat.succ_mul]; exact Nat.mul_le_mul_right _ (by omega)
    rw [if_neg (by omega)]; exact h i y (by omega) hy j u hu
theorem Filled.all {α : Type} {enc : α → List Value} {sz : Nat} (he : ∀ x, (enc x).length = sz) {l : List α} {xs : List Value} (hlen : xs.length = l.length * sz) (h : Filled enc sz l l.length xs) : xs = l.flatMap enc := by
  apply List.ext_getElem?
  intro m
  by_cases hm : m < l.length * sz
  · have hsz : 0 < sz := by rcases Nat.eq_zero_or_pos sz with h0 | h0; · subst h0; simp at hm
                            · exact h0
    have hi : m / sz < l.length := Nat.div_lt_of_lt_mul (by rw [Nat.mul_comm]; exact hm)
    obtain ⟨x, hx⟩ := getElem?_some_of_lt hi
    have hj : m % sz < (enc x).length := by rw [he]; exact Nat.mod_lt _ hsz
    obtain ⟨u, hu⟩ := getElem?_some_of_lt hj
    have e : m / sz * sz + m % sz = m := by rw [Nat.mul_comm]; exact Nat.div_add_mod m sz
    have h1 := h _ x hi hx _ u hu
    have h2 := flatMap_get he hx hu
    rw [e] at h1 h2
    rw [h1, h2]
  · rw [List.getElem?_eq_none (by omega), List.getElem?_eq_none (by rw [flatMap_length he]; omega)]

theorem ownsRow_up {base e sz : Nat} {w : World} {v : Value} {n : Nat} {xs : List Value} (h : w.ownsRow base e sz v n xs) {w' : World} (hE : Ext w w') : w'.ownsRow base e sz v n xs := by
  refine ⟨h.1, ?_⟩
  rcases h.2 with h2 | ⟨g, cap, cur, hv, hlo, hg, r⟩
  · exact .inl h2
  · exact .inr ⟨g, cap, cur, hv, hlo, (hE.block (Array.getElem?_eq_some_iff.1 hg).1).trans hg, r⟩
theorem ownsRow_setAll {base e sz g n cap : Nat} (cs : List Value) : ∀ {w : World} {xs : List Value} (m : Nat), w.ownsRow base e sz (.slice (some ⟨g, 0, none⟩) n cap) n xs → (setAllW w g m cs).ownsRow base e sz (.slice (some ⟨g, 0, none⟩) n cap) n (setAll xs m cs) := by
  induction cs with
  | nil => intro w xs m h; exact h
  | cons c cs ih => intro w xs m h; exact ih (m + 1) (h.stored m c).1
theorem Ext.setAll {a : World} {g : Nat} (hg : a.heap.size ≤ g) (cs : List Value) : ∀ {b : World} (m : Nat), Ext a b → Ext a (setAllW b g m cs) := by
  induction cs with
  | nil => intro b m h; exact h
  | cons c cs ih => intro b m h; exact ih (m + 1) (h.setCell hg c)

theorem _root_.Go.World.grownBy.setAll {w : World} {g : Nat} (cs : List Value) : ∀ {wr : World} (m : Nat), w.grownBy wr (some g) → w.grownBy (setAllW wr g m cs) (some g) := by
  induction cs with
  | nil => intro wr m h; exact h
  | cons c cs ih =>
    intro wr m h
    exact ih (m + 1) ⟨h.os, h.tape, h.output, by simpa [World.setCell] using h.size, fun k hk hne => (Below.heap_setCell _ _ _ _ (by intro e; exact hne (by simp [e]))).trans (h.block k hk hne)⟩
/-- make([]T, n). -/
theorem wpList_mk {P : Program} {t e sz bytes : Nat} (F : AppFacts P t e sz bytes) {ops : Array Oper} {rest : List Oper} {o : Oper} {a : Act} {w : World} {Q : Exit → Act → World → Prop} (hgd : o.guard = none) (s x : Operand)
    (ho : o.op = .makeSlice t s x) (n : Nat) (hs : a.eval s = .int .i64 (n : Int)) (hx : a.eval x = .int .i64 (n : Int)) (hb : bytes * n ≤ 281474976710656) (hb' : n ≤ 9223372036854775807) {Wb : World} (hE : Ext Wb w)
    (h : ∀ (z1 : Extd w) xs, z1.val.ownsRow Wb.heap.size e sz (.slice (some ⟨w.heap.size, 0, none⟩) n n) n xs → wpList P ops Q rest (a.put o.dst (.slice (some ⟨w.heap.size, 0, none⟩) n n)) z1.val) : wpList P ops Q (o :: rest) a w := by
  obtain ⟨i, z, hi, hz, hsize, hby, hzs⟩ := F.info
  refine wpList_make_full w hgd s x t ho Wb.heap.size e i z sz F.und hi hz hsize .i64 .i64 _ _ n hs hx rfl rfl (by rw [hby]; exact hb) (by simpa [maxLen] using hb') hE.size ?_
  intro w1 hown1 hg
  exact h ⟨w1, (Ext.refl w).grown hg (fun k hk => by cases hk)⟩ _ hown1
end Go.Proofs.Ytknohbdhbjppjaa
