/- Plain ground: append where other slices of the call's own lie beside: which block was written. Walks: stores and writes with one entry more, on the reference's side. -/
import Derived.Test.YtkboefmkfpnpjaaGEvTop05
import Derived.Maps.AppendAt
import Derived.Deep.AppendLies
import Derived.Test.YtkboefmkfpnpjaaGEvTop04
set_option linter.unusedSimpArgs false
set_option linter.unusedVariables false
namespace Go.Proofs.Ytkboefmkfpnpjaa
open Go Go.RowKit

/-- Two slices share no block. -/
def Apart (v v' : Value) : Prop := v.ownBlock = none ∨ v.ownBlock ≠ v'.ownBlock
theorem Apart.symm {v v' : Value} (h : Apart v v') : Apart v' v := by
  unfold Apart at *
  cases hv : v'.ownBlock with
  | none => exact .inl rfl
  | some k =>
    right
    rcases h with h | h
    · rw [h]; simp
    · rw [hv] at h; exact fun e => h e.symm
theorem Apart.nil (v : Value) (n c : Nat) : Apart (.slice none n c) v := .inl rfl
theorem Apart.nil' (v : Value) (n c : Nat) : Apart v (.slice none n c) := (Apart.nil v n c).symm
/-- What was grown keeps what lies apart. -/
theorem Own.keep {α : Type} {enc : α → List Value} {e sz lo : Nat} {w w' : World} {v v0 : Value} {l : List α} (h : Own enc e sz lo w v l) (hg : w.grownBy w' v0.ownBlock) (ha : Apart v v0) : Own enc e sz lo w' v l := Own.kept h hg ha
/-- A slice that was there lies apart from what an append gives, if it lay apart from what was appended to. -/
theorem Apart.grown {α : Type} {enc : α → List Value} {e sz lo : Nat} {w : World} {v v0 v1 : Value} {l : List α} (h : Own enc e sz lo w v l) (ha : Apart v v0) {n : Nat} (hn : w.heap.size ≤ n) (hb : v1.ownBlock = v0.ownBlock ∨ v1.ownBlock = some n) : Apart v v1 := by
  unfold Apart at *
  rcases hb with hb | hb
  · rw [hb]; exact ha
  · cases hv : v.ownBlock with
    | none => exact .inl rfl
    | some k =>
      right; rw [hb]; intro e
      have := (World.ownsRow.lt h k hv).2
      simp only [Option.some.injEq] at e
      omega
/-- A slice made new lies apart from what was there. -/
theorem Apart.lit {α : Type} {enc : α → List Value} {e sz lo : Nat} {w : World} {v : Value} {l : List α} (h : Own enc e sz lo w v l) {g n c : Nat} (hg : w.heap.size ≤ g) : Apart v (.slice (some ⟨g, 0, none⟩) n c) := by
  unfold Apart
  cases hv : v.ownBlock with
  | none => exact .inl rfl
  | some k =>
    right; intro e
    have := (World.ownsRow.lt h k hv).2
    have e' : k = g := by simpa [Value.ownBlock] using e
    omega
theorem wpList_pushG {P : Program} {t e sz bytes : Nat} (F : AppFacts P t e sz bytes) {ops : Array Oper} {rest : List Oper} {o : Oper} {a : Act} {Q : Exit → Act → World → Prop} (hgd : o.guard = none) (s x : Operand)
    (ho : o.op = .call { callee := .builtin .append, args := #[s, x], argTypes := #[t, t] }) {α : Type} (enc : α → List Value) (he : ∀ x, (enc x).length = sz) (Wb : World) {lo : Nat} {W1 : World} {cs : Array Value} {e' : TypeId} (ys : List α) (l : List α) {v : Value} (hs : a.eval s = v)
    (hown : Own enc e sz lo W1 v l) (hE : Ext Wb W1) (hlo : Wb.heap.size ≤ lo) (hlo' : lo ≤ W1.heap.size) {g m c : Nat} (hx : a.eval x = .slice (some ⟨g, 0, none⟩) m c) (hm : m = ys.length) (hg : g = W1.heap.size) (hcs : cs.toList = ys.flatMap enc)
    (h1 : ∀ u ∈ ys.flatMap enc, u.oneCell' = true) (hb : (l.length + ys.length) * bytes ≤ 140737488355328) (hb' : l.length + ys.length ≤ 9223372036854775807)
    (h : ∀ v' (z1 : Extd Wb), Own enc e sz lo z1.val v' (l ++ ys) → (W1.alloc (.cells cs e')).grownBy z1.val v.ownBlock → (v'.ownBlock = v.ownBlock ∨ v'.ownBlock = some (W1.alloc (.cells cs e')).heap.size) → wpList P ops Q rest (a.put o.dst v') z1.val) : wpList P ops Q (o :: rest) a (W1.alloc (.cells cs e')) := by
  subst hg; subst hm
  obtain ⟨i, z, hi, hz, hsize, hby, hzs⟩ := F.info
  have hown' : (W1.alloc (.cells cs e')).ownsRow lo e sz v l.length (l.flatMap enc) := hown.up ((Ext.refl _).alloc _)
  have hE' := hE.alloc (.cells cs e')
  refine wpList_append_own_at _ hgd s x t ho lo e i z sz bytes F.und hi hz hsize hby hzs F.pos v l.length (l.flatMap enc) hs hown' ⟨W1.heap.size, 0, none⟩ ys.length c (ys.flatMap enc) hx (flatMap_length he ys) (fun j u hu => ?_) h1 (by simpa [maxLen] using hb') hb (by simp; omega) ?_
  · have e1 : (⟨W1.heap.size, 0, none⟩ : Addr).add j = ⟨W1.heap.size, j, none⟩ := by unfold Addr.add; split <;> simp_all
    rw [e1, cell_of_row _ W1.heap.size j cs e' (0, 0) (heap_alloc_new W1 _), ← Array.getElem?_toList, hcs]
    exact hu
  · intro v' w1 hown1 hg1 _ hblk
    refine h v' ⟨w1, hE'.grown hg1 fun k hk => Nat.le_trans hlo (World.ownsRow.lt hown' k hk).1⟩ ?_ hg1 hblk
    show w1.ownsRow _ _ _ _ _ _
    simpa [Own] using hown1
/-- .. in a region that draws its order: at whatever world that holds the new elements in block g. -/
theorem step_pushG {P : Program} {t e sz bytes : Nat} (F : AppFacts P t e sz bytes) {ops : Array Oper} {o : Oper} {a : Act} {K : Act → World → Prop} {Q : Exit → Act → World → Prop} {E : Prop} (hgd : o.guard = none) (s x : Operand)
    (ho : o.op = .call { callee := .builtin .append, args := #[s, x], argTypes := #[t, t] }) {α : Type} (enc : α → List Value) (he : ∀ x, (enc x).length = sz) (Wb : World) {lo : Nat} {W : World} {cs : Array Value} {e' : TypeId} {fr : Nat × Nat} (ys : List α) (l : List α) {v : Value} (hs : a.eval s = v)
    {g m c : Nat} (hx : a.eval x = .slice (some ⟨g, 0, none⟩) m c) (hg : W.heap[g]? = some (.cells cs e' fr)) (hown : Own enc e sz lo W v l) (hE : Ext Wb W) (hlo : Wb.heap.size ≤ lo) (hlo' : lo ≤ W.heap.size) (hm : m = ys.length) (hm0 : 0 < m) (hcs : cs.toList = ys.flatMap enc)
    (h1 : ∀ u ∈ ys.flatMap enc, u.oneCell' = true) (hb : (l.length + ys.length) * bytes ≤ 140737488355328) (hb' : l.length + ys.length ≤ 9223372036854775807)
    (h : ∀ v' (z1 : Extd Wb), Own enc e sz lo z1.val v' (l ++ ys) → W.grownBy z1.val v.ownBlock → (v'.ownBlock = v.ownBlock ∨ v'.ownBlock = some W.heap.size) → K (a.put o.dst v') z1.val) :
    if Region.wanted o (yielded ops a.tmps) = true then Oper.wp P o a W K Q else E := by
  subst hm
  obtain ⟨i, z, hi, hz, hsize, hby, hzs⟩ := F.info
  refine step_append_lies _ hgd s x t ho lo e i z sz bytes F.und hi hz hsize hby hzs F.pos v l.length (l.flatMap enc) hs hown ⟨g, 0, none⟩ ys.length c (ys.flatMap enc) hx (flatMap_length he ys) (fun j u hu => ?_) h1 hm0 (by simpa [maxLen] using hb') hb hlo' _ rfl ?_
  · have e1 : (⟨g, 0, none⟩ : Addr).add j = ⟨g, j, none⟩ := by unfold Addr.add; split <;> simp_all
    rw [e1, cell_of_row W g j cs e' fr hg, ← Array.getElem?_toList, hcs]
    exact hu
  · intro g cap w1 hown1 hg1 hblk _
    refine h _ ⟨w1, hE.grown hg1 fun k hk => Nat.le_trans hlo (World.ownsRow.lt hown k hk).1⟩ ?_ hg1 ?_
    · show w1.ownsRow _ _ _ _ _ _
      simpa [Own] using hown1
    · rcases hblk with hb1 | hb1
      · left; rw [hb1]; rfl
      · right; rw [hb1]; rfl
/-- Slices as elements. -/
def encV (v : Value) : List Value := [v]
theorem encV_length (v : Value) : (encV v).length = 1 := rfl
theorem Own.cellI {e lo g off n c : Nat} {w : World} {l : List Int} (h : Own encI e 1 lo w (.slice (some ⟨g, off, none⟩) n c) l) {j : Nat} {a : Int} (ha : l[j]? = some a) : w.cell? ⟨g, off + j, none⟩ = some (.int .i64 a) := by
  obtain ⟨p9, c9, e9, _, hc9⟩ := (h.sl encI_length).open
  cases e9
  obtain ⟨g4, off4, hp4, _, hca⟩ := hc9 j a ha
  cases hp4
  have := hca 0 _ rfl; simpa using this
/-- s[i:i+m]. -/
theorem SL.sub {α : Type} {R : World → List Value → α → Prop} {sz : Nat} {w : World} {b off n cap : Nat} {l : List α} (h : SL R sz w (.slice (some ⟨b, off, none⟩) n cap) l) {i m : Nat} (hi : i + m ≤ l.length) {cap' : Nat} (hc : m ≤ cap') : SL R sz w (.slice (some ⟨b, off + i * sz, none⟩) m cap') ((l.drop i).take m) := by
  obtain ⟨a', c', hv, hl, hcells⟩ := h
  cases hv
  have e : ((l.drop i).take m).length = m := by rw [List.length_take, List.length_drop]; omega
  refine ⟨_, cap', by rw [e], ⟨by rw [e]; omega, by rw [e]; exact hc⟩, fun hne => ?_⟩
  obtain ⟨b', off', ha, hb, hx⟩ := hcells (by intro e0; subst e0; simp at hne)
  cases ha
  refine ⟨b, off + i * sz, rfl, hb, fun j x hj => ?_⟩
  have hjm : j < m := by have := (List.getElem?_eq_some_iff.1 hj).1; omega
  rw [List.getElem?_take_of_lt hjm, List.getElem?_drop] at hj
  obtain ⟨cs, h1, h2, h3⟩ := hx _ x hj
  refine ⟨cs, h1, fun q u hu => ?_, h3⟩
  have := h2 q u hu
  rwa [Nat.add_mul, ← Nat.add_assoc] at this
end Go.Proofs.Ytkboefmkfpnpjaa
namespace Go.Proofs.Ytkboefmkfpnpjaa
open Go Go.RowKit Go.Proofs

set_option maxRecDepth 100000 in
set_option maxHeartbeats 2000000 in
theorem l2Put_any (l : List Ent) (v : Value) (key val : Int) (w : World) (h : SL (RF Ent.enc) 2 w v l) (hn : l.length ≤ 1073741824) :
    Calls Try.prog 140 #[v, .int .i64 key, .int .i64 val] w fun e w' => ∃ v', e = .returned v' ∧ Up w w' ∧ Own Ent.enc 31 2 w.heap.size w' v' (putF (decide (val = 0)) key val l) := by
  obtain ⟨a, cap, rfl, hlen, hc⟩ := h.open
  clear h
  have hz : (val == 0) = decide (val = 0) := rfl
  go_enter Try.func140, Try.ntmps140
  go_wp2_with fail
  go_loopw [7, 8, 9] (fun s7 s8 s9 wr => ∃ (k : Nat) (p : Bool), s9 = .int .i64 k ∧ k ≤ l.length ∧ Up w wr ∧ (s8 = .bool p ∧ (putTo2 (decide (val = 0)) key val (l.take k)).2 = p) ∧ Own Ent.enc 31 2 w.heap.size wr s7 (putTo2 (decide (val = 0)) key val (l.take k)).1) (fun _ _ s9 _ => l.length - (intOf s9).toNat)
  case atStart => exact ⟨0, _, rfl, Nat.zero_le _, (.of (by repeat (first | (with_reducible exact Ext.refl _) | (with_reducible refine Ext.up ?_ _) | (with_reducible refine Ext.alloc ?_ _) | (with_reducible refine Ext.drew ?_) | (with_reducible refine Ext.setRow ?_ (by first | exact LeS.le | exact LeS.add _ | (simp; done) | (simp; omega)) _) | (with_reducible refine Ext.setCell ?_ (by first | exact LeS.le | exact LeS.add _ | (simp; done) | (simp; omega)) _)))), ⟨rfl, rfl⟩, Own.lit (by simp) (by simp) rfl rfl Ent.enc_length (by simp [putTo2])⟩
  case round =>
    obtain ⟨k, p, rfl, hk, ⟨z, rfl⟩, ⟨rfl, hp⟩, hown⟩ := hrel
    have hle := putTo2_le (decide (val = 0)) key val (l.take k)
    have hlk : (l.take k).length ≤ k := List.length_take_le _ _
    have Hown := Lib.hid hown; clear hown
    by_cases hlt : k < l.length
    · obtain ⟨x, hxk⟩ := getElem?_some_of_lt hlt
      obtain ⟨b, off, rfl, hb, hcc⟩ := hc k x hxk
      have c0 : w.cell? ⟨b, off + k * 2, none⟩ = some (.int .i64 x.k) := hcc 0 _ rfl
      have c1 : w.cell? ⟨b, off + k * 2 + 1, none⟩ = some (.int .i64 x.v) := hcc 1 _ rfl
      have Hx := Lib.hid hxk
      clear hc hcc hxk
      replace hp := Lib.hid hp
      rcases p with _ | _
      · by_cases hge : key ≤ x.k
        · rcases ne_cases x.k key with ⟨h2, h2'⟩ | ⟨h2, h2'⟩
          · have h1 := Lib.hid hge; replace h2 := Lib.hid h2
            go_wp2_with (first | (at_builtin; refine wpList_push1 fEnt rfl (.tmp 30) (.tmp 34) rfl Ent.enc w ⟨key, val⟩ (putTo2 (decide (val = 0)) key val (l.take k)).1 rfl (Hown.out.up (by repeat (first | (with_reducible exact Ext.refl _) | (with_reducible refine Ext.up ?_ _) | (with_reducible refine Ext.alloc ?_ _) | (with_reducible refine Ext.drew ?_) | (with_reducible refine Ext.setRow ?_ (by first | exact LeS.le | exact LeS.add _ | (simp; done) | (simp; omega)) _) | (with_reducible refine Ext.setCell ?_ (by first | exact LeS.le | exact LeS.add _ | (simp; done) | (simp; omega)) _)))) (by repeat (first | (with_reducible exact Ext.refl _) | (with_reducible refine Ext.up ?_ _) | (with_reducible refine Ext.alloc ?_ _) | (with_reducible refine Ext.drew ?_) | (with_reducible refine Ext.setRow ?_ (by first | exact LeS.le | exact LeS.add _ | (simp; done) | (simp; omega)) _) | (with_reducible refine Ext.setCell ?_ (by first | exact LeS.le | exact LeS.add _ | (simp; done) | (simp; omega)) _))) rfl (by go_simp) rfl rfl (oneE _) (by omega) (by omega) ?_; intro v1 z1 hown1; have hown2 := Lib.hid hown1; clear hown1) | (at_builtin; refine wpList_push1 fEnt rfl (.tmp 43) (.tmp 48) rfl Ent.enc w x ((putTo2 (decide (val = 0)) key val (l.take k)).1 ++ [⟨key, val⟩]) rfl (hown2.out.up (by repeat (first | (with_reducible exact Ext.refl _) | (with_reducible refine Ext.up ?_ _) | (with_reducible refine Ext.alloc ?_ _) | (with_reducible refine Ext.drew ?_) | (with_reducible refine Ext.setRow ?_ (by first | exact LeS.le | exact LeS.add _ | (simp; done) | (simp; omega)) _) | (with_reducible refine Ext.setCell ?_ (by first | exact LeS.le | exact LeS.add _ | (simp; done) | (simp; omega)) _)))) (by repeat (first | (with_reducible exact Ext.refl _) | (with_reducible refine Ext.up ?_ _) | (with_reducible refine Ext.alloc ?_ _) | (with_reducible refine Ext.drew ?_) | (with_reducible refine Ext.setRow ?_ (by first | exact LeS.le | exact LeS.add _ | (simp; done) | (simp; omega)) _) | (with_reducible refine Ext.setCell ?_ (by first | exact LeS.le | exact LeS.add _ | (simp; done) | (simp; omega)) _))) rfl (by go_simp) rfl rfl (oneE _) (by first | omega | (simp only [List.length_append, List.length_cons, List.length_nil]; omega)) (by first | omega | (simp only [List.length_append, List.length_cons, List.length_nil]; omega)) ?_; intro v3 z3 hown3))
            have hown4 := Lib.hid hown3; clear hown3
            go_wp2_with fail
            go_roundw
            case rel => exact ⟨k + 1, true, by go_num, by omega, (.of (by repeat (first | (with_reducible exact Ext.refl _) | (with_reducible refine Ext.up ?_ _) | (with_reducible refine Ext.alloc ?_ _) | (with_reducible refine Ext.drew ?_) | (with_reducible refine Ext.setRow ?_ (by first | exact LeS.le | exact LeS.add _ | (simp; done) | (simp; omega)) _) | (with_reducible refine Ext.setCell ?_ (by first | exact LeS.le | exact LeS.add _ | (simp; done) | (simp; omega)) _)))), ⟨rfl, by rw [putTo2_snoc _ _ _ Hx.out]; simp [putStep, hp.out, h1.out]⟩, by rw [putTo2_snoc _ _ _ Hx.out]; simpa [putStep, hp.out, h1.out, h2.out] using hown4.out⟩
            case measure => simp [intOf]; omega
          · have h1 := Lib.hid hge; replace h2 := Lib.hid h2
            go_wp2_with (at_builtin; refine wpList_push1 fEnt rfl (.tmp 30) (.tmp 34) rfl Ent.enc w ⟨key, val⟩ (putTo2 (decide (val = 0)) key val (l.take k)).1 rfl (Hown.out.up (by repeat (first | (with_reducible exact Ext.refl _) | (with_reducible refine Ext.up ?_ _) | (with_reducible refine Ext.alloc ?_ _) | (with_reducible refine Ext.drew ?_) | (with_reducible refine Ext.setRow ?_ (by first | exact LeS.le | exact LeS.add _ | (simp; done) | (simp; omega)) _) | (with_reducible refine Ext.setCell ?_ (by first | exact LeS.le | exact LeS.add _ | (simp; done) | (simp; omega)) _)))) (by repeat (first | (with_reducible exact Ext.refl _) | (with_reducible refine Ext.up ?_ _) | (with_reducible refine Ext.alloc ?_ _) | (with_reducible refine Ext.drew ?_) | (with_reducible refine Ext.setRow ?_ (by first | exact LeS.le | exact LeS.add _ | (simp; done) | (simp; omega)) _) | (with_reducible refine Ext.setCell ?_ (by first | exact LeS.le | exact LeS.add _ | (simp; done) | (simp; omega)) _))) rfl (by go_simp) rfl rfl (oneE _) (by omega) (by omega) ?_; intro v1 z1 hown1)
            have hown2 := Lib.hid hown1; clear hown1
            go_wp2_with fail
            go_roundw
            case rel => exact ⟨k + 1, true, by go_num, by omega, (.of (by repeat (first | (with_reducible exact Ext.refl _) | (with_reducible refine Ext.up ?_ _) | (with_reducible refine Ext.alloc ?_ _) | (with_reducible refine Ext.drew ?_) | (with_reducible refine Ext.setRow ?_ (by first | exact LeS.le | exact LeS.add _ | (simp; done) | (simp; omega)) _) | (with_reducible refine Ext.setCell ?_ (by first | exact LeS.le | exact LeS.add _ | (simp; done) | (simp; omega)) _)))), ⟨rfl, by rw [putTo2_snoc _ _ _ Hx.out]; simp [putStep, hp.out, h1.out]⟩, by rw [putTo2_snoc _ _ _ Hx.out]; simpa [putStep, hp.out, h1.out, h2.out] using hown2.out⟩
            case measure => simp [intOf]; omega
        · obtain ⟨h2, h2'⟩ : x.k ≠ key ∧ (x.k != key) = true := by refine ⟨by omega, ?_⟩; simp; omega
          have h1 := Lib.hid hge; replace h2 := Lib.hid h2
          go_wp2_with (at_builtin; refine wpList_push1 fEnt rfl (.tmp 43) (.tmp 48) rfl Ent.enc w x (putTo2 (decide (val = 0)) key val (l.take k)).1 rfl (Hown.out.up (by repeat (first | (with_reducible exact Ext.refl _) | (with_reducible refine Ext.up ?_ _) | (with_reducible refine Ext.alloc ?_ _) | (with_reducible refine Ext.drew ?_) | (with_reducible refine Ext.setRow ?_ (by first | exact LeS.le | exact LeS.add _ | (simp; done) | (simp; omega)) _) | (with_reducible refine Ext.setCell ?_ (by first | exact LeS.le | exact LeS.add _ | (simp; done) | (simp; omega)) _)))) (by repeat (first | (with_reducible exact Ext.refl _) | (with_reducible refine Ext.up ?_ _) | (with_reducible refine Ext.alloc ?_ _) | (with_reducible refine Ext.drew ?_) | (with_reducible refine Ext.setRow ?_ (by first | exact LeS.le | exact LeS.add _ | (simp; done) | (simp; omega)) _) | (with_reducible refine Ext.setCell ?_ (by first | exact LeS.le | exact LeS.add _ | (simp; done) | (simp; omega)) _))) rfl (by go_simp) rfl rfl (oneE _) (by first | omega | (simp only [List.length_append, List.length_cons, List.length_nil]; omega)) (by first | omega | (simp only [List.length_append, List.length_cons, List.length_nil]; omega)) ?_; intro v3 z3 hown3)
          have hown4 := Lib.hid hown3; clear hown3
          go_wp2_with fail
          go_roundw
          case rel => exact ⟨k + 1, false, by go_num, by omega, (.of (by repeat (first | (with_reducible exact Ext.refl _) | (with_reducible refine Ext.up ?_ _) | (with_reducible refine Ext.alloc ?_ _) | (with_reducible refine Ext.drew ?_) | (with_reducible refine Ext.setRow ?_ (by first | exact LeS.le | exact LeS.add _ | (simp; done) | (simp; omega)) _) | (with_reducible refine Ext.setCell ?_ (by first | exact LeS.le | exact LeS.add _ | (simp; done) | (simp; omega)) _)))), ⟨rfl, by rw [putTo2_snoc _ _ _ Hx.out]; simp [putStep, hp.out, h1.out]⟩, by rw [putTo2_snoc _ _ _ Hx.out]; simpa [putStep, hp.out, h1.out, h2.out] using hown4.out⟩
          case measure => simp [intOf]; omega
      · rcases ne_cases x.k key with ⟨h2, h2'⟩ | ⟨h2, h2'⟩
        · replace h2 := Lib.hid h2
          go_wp2_with (at_builtin; refine wpList_push1 fEnt rfl (.tmp 43) (.tmp 48) rfl Ent.enc w x (putTo2 (decide (val = 0)) key val (l.take k)).1 rfl (Hown.out.up (by repeat (first | (with_reducible exact Ext.refl _) | (with_reducible refine Ext.up ?_ _) | (with_reducible refine Ext.alloc ?_ _) | (with_reducible refine Ext.drew ?_) | (with_reducible refine Ext.setRow ?_ (by first | exact LeS.le | exact LeS.add _ | (simp; done) | (simp; omega)) _) | (with_reducible refine Ext.setCell ?_ (by first | exact LeS.le | exact LeS.add _ | (simp; done) | (simp; omega)) _)))) (by repeat (first | (with_reducible exact Ext.refl _) | (with_reducible refine Ext.up ?_ _) | (with_reducible refine Ext.alloc ?_ _) | (with_reducible refine Ext.drew ?_) | (with_reducible refine Ext.setRow ?_ (by first | exact LeS.le | exact LeS.add _ | (simp; done) | (simp; omega)) _) | (with_reducible refine Ext.setCell ?_ (by first | exact LeS.le | exact LeS.add _ | (simp; done) | (simp; omega)) _))) rfl (by go_simp) rfl rfl (oneE _) (by first | omega | (simp only [List.length_append, List.length_cons, List.length_nil]; omega)) (by first | omega | (simp only [List.length_append, List.length_cons, List.length_nil]; omega)) ?_; intro v3 z3 hown3)
          have hown4 := Lib.hid hown3; clear hown3
          go_wp2_with fail
          go_roundw
          case rel => exact ⟨k + 1, true, by go_num, by omega, (.of (by repeat (first | (with_reducible exact Ext.refl _) | (with_reducible refine Ext.up ?_ _) | (with_reducible refine Ext.alloc ?_ _) | (with_reducible refine Ext.drew ?_) | (with_reducible refine Ext.setRow ?_ (by first | exact LeS.le | exact LeS.add _ | (simp; done) | (simp; omega)) _) | (with_reducible refine Ext.setCell ?_ (by first | exact LeS.le | exact LeS.add _ | (simp; done) | (simp; omega)) _)))), ⟨rfl, by rw [putTo2_snoc _ _ _ Hx.out]; simp [putStep, hp.out]⟩, by rw [putTo2_snoc _ _ _ Hx.out]; simpa [putStep, hp.out, h2.out] using hown4.out⟩
          case measure => simp [intOf]; omega
        · replace h2 := Lib.hid h2
          go_wp2_with fail
          go_roundw
          case rel => exact ⟨k + 1, true, by go_num, by omega, (.of (by repeat (first | (with_reducible exact Ext.refl _) | (with_reducible refine Ext.up ?_ _) | (with_reducible refine Ext.alloc ?_ _) | (with_reducible refine Ext.drew ?_) | (with_reducible refine Ext.setRow ?_ (by first | exact LeS.le | exact LeS.add _ | (simp; done) | (simp; omega)) _) | (with_reducible refine Ext.setCell ?_ (by first | exact LeS.le | exact LeS.add _ | (simp; done) | (simp; omega)) _)))), ⟨rfl, by rw [putTo2_snoc _ _ _ Hx.out]; simp [putStep, hp.out]⟩, by rw [putTo2_snoc _ _ _ Hx.out]; simpa [putStep, hp.out, h2.out] using Hown.out.up (by repeat (first | (with_reducible exact Ext.refl _) | (with_reducible refine Ext.up ?_ _) | (with_reducible refine Ext.alloc ?_ _) | (with_reducible refine Ext.drew ?_) | (with_reducible refine Ext.setRow ?_ (by first | exact LeS.le | exact LeS.add _ | (simp; done) | (simp; omega)) _) | (with_reducible refine Ext.setCell ?_ (by first | exact LeS.le | exact LeS.add _ | (simp; done) | (simp; omega)) _)))⟩
          case measure => simp [intOf]; omega
    · obtain rfl : k = l.length := by omega
      clear hc
      rcases p with _ | _
      · go_wp2_with (at_builtin; refine wpList_push1 fEnt rfl (.tmp 52) (.tmp 56) rfl Ent.enc w ⟨key, val⟩ (putTo2 (decide (val = 0)) key val (l.take l.length)).1 rfl (Hown.out.up (by repeat (first | (with_reducible exact Ext.refl _) | (with_reducible refine Ext.up ?_ _) | (with_reducible refine Ext.alloc ?_ _) | (with_reducible refine Ext.drew ?_) | (with_reducible refine Ext.setRow ?_ (by first | exact LeS.le | exact LeS.add _ | (simp; done) | (simp; omega)) _) | (with_reducible refine Ext.setCell ?_ (by first | exact LeS.le | exact LeS.add _ | (simp; done) | (simp; omega)) _)))) (by repeat (first | (with_reducible exact Ext.refl _) | (with_reducible refine Ext.up ?_ _) | (with_reducible refine Ext.alloc ?_ _) | (with_reducible refine Ext.drew ?_) | (with_reducible refine Ext.setRow ?_ (by first | exact LeS.le | exact LeS.add _ | (simp; done) | (simp; omega)) _) | (with_reducible refine Ext.setCell ?_ (by first | exact LeS.le | exact LeS.add _ | (simp; done) | (simp; omega)) _))) rfl (by go_simp) rfl rfl (oneE _) (by omega) (by omega) ?_; intro v1 z1 hown1)
        have hown2 := Lib.hid hown1; clear hown1
        go_wp2_with fail
        go_ret
        refine ⟨_, rfl, (.of (by repeat (first | (with_reducible exact Ext.refl _) | (with_reducible refine Ext.up ?_ _) | (with_reducible refine Ext.alloc ?_ _) | (with_reducible refine Ext.drew ?_) | (with_reducible refine Ext.setRow ?_ (by first | exact LeS.le | exact LeS.add _ | (simp; done) | (simp; omega)) _) | (with_reducible refine Ext.setCell ?_ (by first | exact LeS.le | exact LeS.add _ | (simp; done) | (simp; omega)) _)))), ?_⟩
        have := hown2.out
        rw [List.take_length] at this hp
        unfold putF
        rw [hp, if_neg (by decide)]
        exact this
      · go_wp2_with fail
        go_ret
        refine ⟨_, rfl, (.of (by repeat (first | (with_reducible exact Ext.refl _) | (with_reducible refine Ext.up ?_ _) | (with_reducible refine Ext.alloc ?_ _) | (with_reducible refine Ext.drew ?_) | (with_reducible refine Ext.setRow ?_ (by first | exact LeS.le | exact LeS.add _ | (simp; done) | (simp; omega)) _) | (with_reducible refine Ext.setCell ?_ (by first | exact LeS.le | exact LeS.add _ | (simp; done) | (simp; omega)) _)))), ?_⟩
        have := Hown.out
        rw [List.take_length] at this hp
        unfold putF
        rw [hp, if_pos rfl]
        exact this
set_option maxRecDepth 100000 in
set_option maxHeartbeats 2000000 in
theorem l4Put_any (l : List Ent) (v : Value) (key val : Int) (w : World) (h : SL (RF Ent.enc) 2 w v l) (hn : l.length ≤ 1073741824) :
    Calls Try.prog 173 #[v, .int .i64 key, .int .i64 val] w fun e w' => ∃ v', e = .returned v' ∧ Up w w' ∧ Own Ent.enc 31 2 w.heap.size w' v' (putF false key val l) := by
  obtain ⟨a, cap, rfl, hlen, hc⟩ := h.open
  clear h
  have hz : (val == 0) = decide (val = 0) := rfl
  go_enter Try.func173, Try.ntmps173
  go_wp2_with fail
  go_loopw [7, 8, 9] (fun s7 s8 s9 wr => ∃ (k : Nat) (p : Bool), s9 = .int .i64 k ∧ k ≤ l.length ∧ Up w wr ∧ (s8 = .bool p ∧ (putTo2 false key val (l.take k)).2 = p) ∧ Own Ent.enc 31 2 w.heap.size wr s7 (putTo2 false key val (l.take k)).1) (fun _ _ s9 _ => l.length - (intOf s9).toNat)
  case atStart => exact ⟨0, _, rfl, Nat.zero_le _, (.of (by repeat (first | (with_reducible exact Ext.refl _) | (with_reducible refine Ext.up ?_ _) | (with_reducible refine Ext.alloc ?_ _) | (with_reducible refine Ext.drew ?_) | (with_reducible refine Ext.setRow ?_ (by first | exact LeS.le | exact LeS.add _ | (simp; done) | (simp; omega)) _) | (with_reducible refine Ext.setCell ?_ (by first | exact LeS.le | exact LeS.add _ | (simp; done) | (simp; omega)) _)))), ⟨rfl, rfl⟩, Own.lit (by simp) (by simp) rfl rfl Ent.enc_length (by simp [putTo2])⟩
  case round =>
    obtain ⟨k, p, rfl, hk, ⟨z, rfl⟩, ⟨rfl, hp⟩, hown⟩ := hrel
    have hle := putTo2_le false key val (l.take k)
    have hlk : (l.take k).length ≤ k := List.length_take_le _ _
    have Hown := Lib.hid hown; clear hown
    by_cases hlt : k < l.length
    · obtain ⟨x, hxk⟩ := getElem?_some_of_lt hlt
      obtain ⟨b, off, rfl, hb, hcc⟩ := hc k x hxk
      have c0 : w.cell? ⟨b, off + k * 2, none⟩ = some (.int .i64 x.k) := hcc 0 _ rfl
      have c1 : w.cell? ⟨b, off + k * 2 + 1, none⟩ = some (.int .i64 x.v) := hcc 1 _ rfl
      have Hx := Lib.hid hxk
      clear hc hcc hxk
      replace hp := Lib.hid hp
      rcases p with _ | _
      · by_cases hge : key ≤ x.k
        · rcases ne_cases x.k key with ⟨h2, h2'⟩ | ⟨h2, h2'⟩
          · have h1 := Lib.hid hge; replace h2 := Lib.hid h2
            go_wp2_with (first | (at_builtin; refine wpList_push1 fEnt rfl (.tmp 28) (.tmp 32) rfl Ent.enc w ⟨key, val⟩ (putTo2 false key val (l.take k)).1 rfl (Hown.out.up (by repeat (first | (with_reducible exact Ext.refl _) | (with_reducible refine Ext.up ?_ _) | (with_reducible refine Ext.alloc ?_ _) | (with_reducible refine Ext.drew ?_) | (with_reducible refine Ext.setRow ?_ (by first | exact LeS.le | exact LeS.add _ | (simp; done) | (simp; omega)) _) | (with_reducible refine Ext.setCell ?_ (by first | exact LeS.le | exact LeS.add _ | (simp; done) | (simp; omega)) _)))) (by repeat (first | (with_reducible exact Ext.refl _) | (with_reducible refine Ext.up ?_ _) | (with_reducible refine Ext.alloc ?_ _) | (with_reducible refine Ext.drew ?_) | (with_reducible refine Ext.setRow ?_ (by first | exact LeS.le | exact LeS.add _ | (simp; done) | (simp; omega)) _) | (with_reducible refine Ext.setCell ?_ (by first | exact LeS.le | exact LeS.add _ | (simp; done) | (simp; omega)) _))) rfl (by go_simp) rfl rfl (oneE _) (by omega) (by omega) ?_; intro v1 z1 hown1; have hown2 := Lib.hid hown1; clear hown1) | (at_builtin; refine wpList_push1 fEnt rfl (.tmp 41) (.tmp 46) rfl Ent.enc w x ((putTo2 false key val (l.take k)).1 ++ [⟨key, val⟩]) rfl (hown2.out.up (by repeat (first | (with_reducible exact Ext.refl _) | (with_reducible refine Ext.up ?_ _) | (with_reducible refine Ext.alloc ?_ _) | (with_reducible refine Ext.drew ?_) | (with_reducible refine Ext.setRow ?_ (by first | exact LeS.le | exact LeS.add _ | (simp; done) | (simp; omega)) _) | (with_reducible refine Ext.setCell ?_ (by first | exact LeS.le | exact LeS.add _ | (simp; done) | (simp; omega)) _)))) (by repeat (first | (with_reducible exact Ext.refl _) | (with_reducible refine Ext.up ?_ _) | (with_reducible refine Ext.alloc ?_ _) | (with_reducible refine Ext.drew ?_) | (with_reducible refine Ext.setRow ?_ (by first | exact LeS.le | exact LeS.add _ | (simp; done) | (simp; omega)) _) | (with_reducible refine Ext.setCell ?_ (by first | exact LeS.le | exact LeS.add _ | (simp; done) | (simp; omega)) _))) rfl (by go_simp) rfl rfl (oneE _) (by first | omega | (simp only [List.length_append, List.length_cons, List.length_nil]; omega)) (by first | omega | (simp only [List.length_append, List.length_cons, List.length_nil]; omega)) ?_; intro v3 z3 hown3))
            have hown4 := Lib.hid hown3; clear hown3
            go_wp2_with fail
            go_roundw
            case rel => exact ⟨k + 1, true, by go_num, by omega, (.of (by repeat (first | (with_reducible exact Ext.refl _) | (with_reducible refine Ext.up ?_ _) | (with_reducible refine Ext.alloc ?_ _) | (with_reducible refine Ext.drew ?_) | (with_reducible refine Ext.setRow ?_ (by first | exact LeS.le | exact LeS.add _ | (simp; done) | (simp; omega)) _) | (with_reducible refine Ext.setCell ?_ (by first | exact LeS.le | exact LeS.add _ | (simp; done) | (simp; omega)) _)))), ⟨rfl, by rw [putTo2_snoc _ _ _ Hx.out]; simp [putStep, hp.out, h1.out]⟩, by rw [putTo2_snoc _ _ _ Hx.out]; simpa [putStep, hp.out, h1.out, h2.out] using hown4.out⟩
            case measure => simp [intOf]; omega
          · have h1 := Lib.hid hge; replace h2 := Lib.hid h2
            go_wp2_with (at_builtin; refine wpList_push1 fEnt rfl (.tmp 28) (.tmp 32) rfl Ent.enc w ⟨key, val⟩ (putTo2 false key val (l.take k)).1 rfl (Hown.out.up (by repeat (first | (with_reducible exact Ext.refl _) | (with_reducible refine Ext.up ?_ _) | (with_reducible refine Ext.alloc ?_ _) | (with_reducible refine Ext.drew ?_) | (with_reducible refine Ext.setRow ?_ (by first | exact LeS.le | exact LeS.add _ | (simp; done) | (simp; omega)) _) | (with_reducible refine Ext.setCell ?_ (by first | exact LeS.le | exact LeS.add _ | (simp; done) | (simp; omega)) _)))) (by repeat (first | (with_reducible exact Ext.refl _) | (with_reducible refine Ext.up ?_ _) | (with_reducible refine Ext.alloc ?_ _) | (with_reducible refine Ext.drew ?_) | (with_reducible refine Ext.setRow ?_ (by first | exact LeS.le | exact LeS.add _ | (simp; done) | (simp; omega)) _) | (with_reducible refine Ext.setCell ?_ (by first | exact LeS.le | exact LeS.add _ | (simp; done) | (simp; omega)) _))) rfl (by go_simp) rfl rfl (oneE _) (by omega) (by omega) ?_; intro v1 z1 hown1)
            have hown2 := Lib.hid hown1; clear hown1
            go_wp2_with fail
            go_roundw
            case rel => exact ⟨k + 1, true, by go_num, by omega, (.of (by repeat (first | (with_reducible exact Ext.refl _) | (with_reducible refine Ext.up ?_ _) | (with_reducible refine Ext.alloc ?_ _) | (with_reducible refine Ext.drew ?_) | (with_reducible refine Ext.setRow ?_ (by first | exact LeS.le | exact LeS.add _ | (simp; done) | (simp; omega)) _) | (with_reducible refine Ext.setCell ?_ (by first | exact LeS.le | exact LeS.add _ | (simp; done) | (simp; omega)) _)))), ⟨rfl, by rw [putTo2_snoc _ _ _ Hx.out]; simp [putStep, hp.out, h1.out]⟩, by rw [putTo2_snoc _ _ _ Hx.out]; simpa [putStep, hp.out, h1.out, h2.out] using hown2.out⟩
            case measure => simp [intOf]; omega
        · obtain ⟨h2, h2'⟩ : x.k ≠ key ∧ (x.k != key) = true := by refine ⟨by omega, ?_⟩; simp; omega
          have h1 := Lib.hid hge; replace h2 := Lib.hid h2
          go_wp2_with (at_builtin; refine wpList_push1 fEnt rfl (.tmp 41) (.tmp 46) rfl Ent.enc w x (putTo2 false key val (l.take k)).1 rfl (Hown.out.up (by repeat (first | (with_reducible exact Ext.refl _) | (with_reducible refine Ext.up ?_ _) | (with_reducible refine Ext.alloc ?_ _) | (with_reducible refine Ext.drew ?_) | (with_reducible refine Ext.setRow ?_ (by first | exact LeS.le | exact LeS.add _ | (simp; done) | (simp; omega)) _) | (with_reducible refine Ext.setCell ?_ (by first | exact LeS.le | exact LeS.add _ | (simp; done) | (simp; omega)) _)))) (by repeat (first | (with_reducible exact Ext.refl _) | (with_reducible refine Ext.up ?_ _) | (with_reducible refine Ext.alloc ?_ _) | (with_reducible refine Ext.drew ?_) | (with_reducible refine Ext.setRow ?_ (by first | exact LeS.le | exact LeS.add _ | (simp; done) | (simp; omega)) _) | (with_reducible refine Ext.setCell ?_ (by first | exact LeS.le | exact LeS.add _ | (simp; done) | (simp; omega)) _))) rfl (by go_simp) rfl rfl (oneE _) (by first | omega | (simp only [List.length_append, List.length_cons, List.length_nil]; omega)) (by first | omega | (simp only [List.length_append, List.length_cons, List.length_nil]; omega)) ?_; intro v3 z3 hown3)
          have hown4 := Lib.hid hown3; clear hown3
          go_wp2_with fail
          go_roundw
          case rel => exact ⟨k + 1, false, by go_num, by omega, (.of (by repeat (first | (with_reducible exact Ext.refl _) | (with_reducible refine Ext.up ?_ _) | (with_reducible refine Ext.alloc ?_ _) | (with_reducible refine Ext.drew ?_) | (with_reducible refine Ext.setRow ?_ (by first | exact LeS.le | exact LeS.add _ | (simp; done) | (simp; omega)) _) | (with_reducible refine Ext.setCell ?_ (by first | exact LeS.le | exact LeS.add _ | (simp; done) | (simp; omega)) _)))), ⟨rfl, by rw [putTo2_snoc _ _ _ Hx.out]; simp [putStep, hp.out, h1.out]⟩, by rw [putTo2_snoc _ _ _ Hx.out]; simpa [putStep, hp.out, h1.out, h2.out] using hown4.out⟩
          case measure => simp [intOf]; omega
      · rcases ne_cases x.k key with ⟨h2, h2'⟩ | ⟨h2, h2'⟩
        · replace h2 := Lib.hid h2
          go_wp2_with (at_builtin; refine wpList_push1 fEnt rfl (.tmp 41) (.tmp 46) rfl Ent.enc w x (putTo2 false key val (l.take k)).1 rfl (Hown.out.up (by repeat (first | (with_reducible exact Ext.refl _) | (with_reducible refine Ext.up ?_ _) | (with_reducible refine Ext.alloc ?_ _) | (with_reducible refine Ext.drew ?_) | (with_reducible refine Ext.setRow ?_ (by first | exact LeS.le | exact LeS.add _ | (simp; done) | (simp; omega)) _) | (with_reducible refine Ext.setCell ?_ (by first | exact LeS.le | exact LeS.add _ | (simp; done) | (simp; omega)) _)))) (by repeat (first | (with_reducible exact Ext.refl _) | (with_reducible refine Ext.up ?_ _) | (with_reducible refine Ext.alloc ?_ _) | (with_reducible refine Ext.drew ?_) | (with_reducible refine Ext.setRow ?_ (by first | exact LeS.le | exact LeS.add _ | (simp; done) | (simp; omega)) _) | (with_reducible refine Ext.setCell ?_ (by first | exact LeS.le | exact LeS.add _ | (simp; done) | (simp; omega)) _))) rfl (by go_simp) rfl rfl (oneE _) (by first | omega | (simp only [List.length_append, List.length_cons, List.length_nil]; omega)) (by first | omega | (simp only [List.length_append, List.length_cons, List.length_nil]; omega)) ?_; intro v3 z3 hown3)
          have hown4 := Lib.hid hown3; clear hown3
          go_wp2_with fail
          go_roundw
          case rel => exact ⟨k + 1, true, by go_num, by omega, (.of (by repeat (first | (with_reducible exact Ext.refl _) | (with_reducible refine Ext.up ?_ _) | (with_reducible refine Ext.alloc ?_ _) | (with_reducible refine Ext.drew ?_) | (with_reducible refine Ext.setRow ?_ (by first | exact LeS.le | exact LeS.add _ | (simp; done) | (simp; omega)) _) | (with_reducible refine Ext.setCell ?_ (by first | exact LeS.le | exact LeS.add _ | (simp; done) | (simp; omega)) _)))), ⟨rfl, by rw [putTo2_snoc _ _ _ Hx.out]; simp [putStep, hp.out]⟩, by rw [putTo2_snoc _ _ _ Hx.out]; simpa [putStep, hp.out, h2.out] using hown4.out⟩
          case measure => simp [intOf]; omega
        · replace h2 := Lib.hid h2
          go_wp2_with fail
          go_roundw
          case rel => exact ⟨k + 1, true, by go_num, by omega, (.of (by repeat (first | (with_reducible exact Ext.refl _) | (with_reducible refine Ext.up ?_ _) | (with_reducible refine Ext.alloc ?_ _) | (with_reducible refine Ext.drew ?_) | (with_reducible refine Ext.setRow ?_ (by first | exact LeS.le | exact LeS.add _ | (simp; done) | (simp; omega)) _) | (with_reducible refine Ext.setCell ?_ (by first | exact LeS.le | exact LeS.add _ | (simp; done) | (simp; omega)) _)))), ⟨rfl, by rw [putTo2_snoc _ _ _ Hx.out]; simp [putStep, hp.out]⟩, by rw [putTo2_snoc _ _ _ Hx.out]; simpa [putStep, hp.out, h2.out] using Hown.out.up (by repeat (first | (with_reducible exact Ext.refl _) | (with_reducible refine Ext.up ?_ _) | (with_reducible refine Ext.alloc ?_ _) | (with_reducible refine Ext.drew ?_) | (with_reducible refine Ext.setRow ?_ (by first | exact LeS.le | exact LeS.add _ | (simp; done) | (simp; omega)) _) | (with_reducible refine Ext.setCell ?_ (by first | exact LeS.le | exact LeS.add _ | (simp; done) | (simp; omega)) _)))⟩
          case measure => simp [intOf]; omega
    · obtain rfl : k = l.length := by omega
      clear hc
      rcases p with _ | _
      · go_wp2_with (at_builtin; refine wpList_push1 fEnt rfl (.tmp 50) (.tmp 54) rfl Ent.enc w ⟨key, val⟩ (putTo2 false key val (l.take l.length)).1 rfl (Hown.out.up (by repeat (first | (with_reducible exact Ext.refl _) | (with_reducible refine Ext.up ?_ _) | (with_reducible refine Ext.alloc ?_ _) | (with_reducible refine Ext.drew ?_) | (with_reducible refine Ext.setRow ?_ (by first | exact LeS.le | exact LeS.add _ | (simp; done) | (simp; omega)) _) | (with_reducible refine Ext.setCell ?_ (by first | exact LeS.le | exact LeS.add _ | (simp; done) | (simp; omega)) _)))) (by repeat (first | (with_reducible exact Ext.refl _) | (with_reducible refine Ext.up ?_ _) | (with_reducible refine Ext.alloc ?_ _) | (with_reducible refine Ext.drew ?_) | (with_reducible refine Ext.setRow ?_ (by first | exact LeS.le | exact LeS.add _ | (simp; done) | (simp; omega)) _) | (with_reducible refine Ext.setCell ?_ (by first | exact LeS.le | exact LeS.add _ | (simp; done) | (simp; omega)) _))) rfl (by go_simp) rfl rfl (oneE _) (by omega) (by omega) ?_; intro v1 z1 hown1)
        have hown2 := Lib.hid hown1; clear hown1
        go_wp2_with fail
        go_ret
        refine ⟨_, rfl, (.of (by repeat (first | (with_reducible exact Ext.refl _) | (with_reducible refine Ext.up ?_ _) | (with_reducible refine Ext.alloc ?_ _) | (with_reducible refine Ext.drew ?_) | (with_reducible refine Ext.setRow ?_ (by first | exact LeS.le | exact LeS.add _ | (simp; done) | (simp; omega)) _) | (with_reducible refine Ext.setCell ?_ (by first | exact LeS.le | exact LeS.add _ | (simp; done) | (simp; omega)) _)))), ?_⟩
        have := hown2.out
        rw [List.take_length] at this hp
        unfold putF
        rw [hp, if_neg (by decide)]
        exact this
      · go_wp2_with fail
        go_ret
        refine ⟨_, rfl, (.of (by repeat (first | (with_reducible exact Ext.refl _) | (with_reducible refine Ext.up ?_ _) | (with_reducible refine Ext.alloc ?_ _) | (with_reducible refine Ext.drew ?_) | (with_reducible refine Ext.setRow ?_ (by first | exact LeS.le | exact LeS.add _ | (simp; done) | (simp; omega)) _) | (with_reducible refine Ext.setCell ?_ (by first | exact LeS.le | exact LeS.add _ | (simp; done) | (simp; omega)) _)))), ?_⟩
        have := Hown.out
        rw [List.take_length] at this hp
        unfold putF
        rw [hp, if_pos rfl]
        exact this
end Go.Proofs.Ytkboefmkfpnpjaa
