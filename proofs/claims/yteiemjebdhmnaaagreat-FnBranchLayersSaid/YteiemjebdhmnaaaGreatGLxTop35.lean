/- The law FnExactFirstBlock's walk. Walks: new trees. Walks: drawn effects. -/
import Derived.Test.YteiemjebdhmnaaaGreatGLxTop17
import Derived.Test.YteiemjebdhmnaaaGreatGLxTop19
import Derived.Test.YteiemjebdhmnaaaGreatGLxTop21
import Derived.Laws.AppendOwnNone
import Derived.Test.YteiemjebdhmnaaaGreatGLxTop15
set_option linter.unusedSimpArgs false
set_option linter.unusedVariables false
namespace Go.Proofs.YteiemjebdhmnaaaGreat
open Go Go.RowKit Go.Proofs

theorem cell_blk {w w' : World} {b : Nat} (h : w'.heap[b]? = w.heap[b]?) (i : Nat) : w'.cell? ⟨b, i, none⟩ = w.cell? ⟨b, i, none⟩ := by
  simp only [World.cell?, h]
theorem sFB (s : List Ent) (v : Value) (w : World) (h : SL (RF Ent.enc) 2 w v s) : Calls Tryz.prog 36 #[v] w fun e w' => e = .returned (.agg #[.int .i64 (firstB s).bf, .int .i64 (firstB s).ht, .int .i64 (firstB s).vw, .slice none 0 0, .int .i64 (firstB s).rt, .int .i64 (firstB s).ef]) ∧ Up w w' := sFirstBlock_any s v w h
theorem iFB (s : List Ent) (v : Value) (w : World) (h : SL (RF Ent.enc) 2 w v s) : Calls Tryz.prog 70 #[v] w fun e w' => e = .returned (.agg #[.int .i64 (firstB s).bf, .int .i64 (firstB s).ht, .int .i64 (firstB s).vw, .slice none 0 0, .int .i64 (firstB s).rt, .int .i64 (firstB s).ef]) ∧ Up w w' := iFirstBlock_any s v w h
end Go.Proofs.YteiemjebdhmnaaaGreat
namespace Go.Proofs.YteiemjebdhmnaaaGreat
open Go Go.RowKit Go.Proofs

theorem SL.flat {α : Type} {enc : α → List Value} {sz : Nat} (he : ∀ x, (enc x).length = sz) {w : World} {b off n c : Nat} {l : List α} (h : SL (RF enc) sz w (.slice (some ⟨b, off, none⟩) n c) l) : ∀ j u, (l.flatMap enc)[j]? = some u → w.cell? ⟨b, off + j, none⟩ = some u := by
  intro j u hu
  obtain ⟨a', c', e, _, hc⟩ := h.open
  cases e
  have hj := (List.getElem?_eq_some_iff.1 hu).1
  rw [flatMap_length he] at hj
  have hsz : 0 < sz := by
    rcases Nat.eq_zero_or_pos sz with h0 | h0
    · subst h0; simp at hj
    · exact h0
  have hi : j / sz < l.length := Nat.div_lt_of_lt_mul (by rw [Nat.mul_comm]; exact hj)
  obtain ⟨x, hx⟩ := getElem?_some_of_lt hi
  have hm : j % sz < (enc x).length := by rw [he]; exact Nat.mod_lt _ hsz
  obtain ⟨u', hu'⟩ := getElem?_some_of_lt hm
  have e : j / sz * sz + j % sz = j := by rw [Nat.mul_comm]; exact Nat.div_add_mod j sz
  have h1 := flatMap_get he hx hu'
  rw [e, hu] at h1
  cases h1
  obtain ⟨b', off', e2, _, hcc⟩ := hc _ x hx
  cases e2
  have h2 := hcc _ _ hu'
  rwa [Nat.add_assoc, e] at h2
/-- append of a whole slice behind one of the call's own. -/
theorem wpList_cat {P : Program} {t e sz bytes : Nat} (F : AppFacts P t e sz bytes) {ops : Array Oper} {rest : List Oper} {o : Oper} {a : Act} {Q : Exit → Act → World → Prop} (hgd : o.guard = none) (s x : Operand)
    (ho : o.op = .call { callee := .builtin .append, args := #[s, x], argTypes := #[t, t] }) {α : Type} (enc : α → List Value) (he : ∀ x, (enc x).length = sz) (Wb : World) {lo : Nat} {w : World} (ys : List α) (l : List α) {v : Value} (hs : a.eval s = v)
    (hown : Own enc e sz lo w v l) (hE : Ext Wb w) (hlo : Wb.heap.size ≤ lo) (hlo' : lo ≤ w.heap.size) {b off m c : Nat} (hx : a.eval x = .slice (some ⟨b, off, none⟩) m c) (hm : m = ys.length) (hys : SL (RF enc) sz w (.slice (some ⟨b, off, none⟩) m c) ys)
    (h1 : ∀ u ∈ ys.flatMap enc, u.oneCell' = true) (hb : (l.length + ys.length) * bytes ≤ 140737488355328) (hb' : l.length + ys.length ≤ 9223372036854775807)
    (h : ∀ v' (z1 : Extd Wb), Own enc e sz lo z1.val v' (l ++ ys) → wpList P ops Q rest (a.put o.dst v') z1.val) : wpList P ops Q (o :: rest) a w := by
  subst hm
  obtain ⟨i, z, hi, hz, hsize, hby, hzs⟩ := F.info
  have hown' : w.ownsRow lo e sz v l.length (l.flatMap enc) := hown
  refine wpList_append_own_at _ hgd s x t ho lo e i z sz bytes F.und hi hz hsize hby hzs F.pos v l.length (l.flatMap enc) hs hown' ⟨b, off, none⟩ ys.length c (ys.flatMap enc) hx (flatMap_length he ys) (fun j u hu => ?_) h1 (by simpa [maxLen] using hb') hb hlo' ?_
  · have e1 : (⟨b, off, none⟩ : Addr).add j = ⟨b, off + j, none⟩ := by unfold Addr.add; split <;> simp_all
    rw [e1]
    exact SL.flat he hys j u hu
  · intro v' w1 hown1 hg1 _ hblk
    refine h v' ⟨w1, hE.grown hg1 fun k hk => Nat.le_trans hlo (World.ownsRow.lt hown' k hk).1⟩ ?_
    show w1.ownsRow _ _ _ _ _ _
    simpa [Own] using hown1
theorem oneEs (l : List Ent) : ∀ u ∈ l.flatMap Ent.enc, u.oneCell' = true := by
  intro u hu
  obtain ⟨x, _, h⟩ := List.mem_flatMap.1 hu
  exact oneE x u h
def treeOf (s : List Ent) : Tree := if entsOk 1 s = true then ⟨s, [(firstB s, [])], [-1]⟩ else ⟨[], [], []⟩
def fb (s : List Ent) : TB := ⟨firstB s, .slice none 0 0, []⟩
theorem OB.one (eB eA lo : Nat) (w : World) (s : List Ent) (g : Nat) (hg : g = w.heap.size) (hlo : lo ≤ w.heap.size) : OB eB eA lo (w.alloc (.cells #[.int .i64 (firstB s).bf, .int .i64 (firstB s).ht, .int .i64 (firstB s).vw, .slice none 0 0, .int .i64 (firstB s).rt, .int .i64 (firstB s).ef] eB)) (.slice (some ⟨g, 0, none⟩) 1 1) [fb s] := by
  refine ⟨Own.lit hg hlo rfl rfl TB.enc_length (by simp), fun x hx => ?_, List.pairwise_singleton _ _⟩
  simp at hx
  subst hx
  exact ⟨Own.nil _ _ _ _ _, .inl rfl⟩
theorem OT.nil (eE eB eA eI lo hi : Nat) (w : World) (h : lo ≤ hi) : OT eE eB eA eI lo hi w (.slice none 0 0) (.slice none 0 0) (.slice none 0 0) [] [] [] :=
  ⟨lo, lo, Nat.le_refl _, Nat.le_refl _, h, Own.nil _ _ _ _ _, (fun k hk => by cases hk), ⟨Own.nil _ _ _ _ _, (fun x hx => by cases hx), List.Pairwise.nil⟩, (fun k hk => by cases hk), (fun x hx => by cases hx), Own.nil _ _ _ _ _, (fun k hk => by cases hk)⟩
theorem OT.yes (eE eB eA eI : Nat) (W : World) (z1 : Extd W) (z2 : Extd z1.val) (s : List Ent) (p0 : Option Addr) (c0 : Nat) (h : Own Ent.enc eE 2 W.heap.size z1.val (.slice p0 s.length c0) s) :
    OT eE eB eA eI W.heap.size (z2.val.heap.size + 1 + 1) ((z2.val.alloc (.cells #[.int .i64 (firstB s).bf, .int .i64 (firstB s).ht, .int .i64 (firstB s).vw, .slice none 0 0, .int .i64 (firstB s).rt, .int .i64 (firstB s).ef] eB)).alloc (.cells #[.int .i64 (-1)] eI)) (.slice p0 s.length c0) (.slice (some ⟨z2.val.heap.size, 0, none⟩) 1 1) (.slice (some ⟨z2.val.heap.size + 1, 0, none⟩) 1 1) s [fb s] [-1] := by
  have h1 := z1.ext.size
  have h2 := z2.ext.size
  refine ⟨z1.val.heap.size, z2.val.heap.size + 1, h1, by omega, by omega, h.up (((z2.ext).alloc _).alloc _), h.under, ?_, (fun k hk => ?_), (fun x hx => ?_), ?_, (fun k hk => ?_)⟩
  · exact (OB.one eB eA z1.val.heap.size z2.val s z2.val.heap.size rfl h2).up ((Ext.refl _).alloc _)
  · have : z2.val.heap.size = k := by simpa [Value.ownBlock] using hk
    omega
  · simp at hx
    subst hx
    intro k hk
    cases hk
  · exact Own.lit (by simp) (by simp) rfl rfl encI_length (by simp)
  · have : z2.val.heap.size + 1 = k := by simpa [Value.ownBlock] using hk
    omega
set_option maxRecDepth 100000 in
set_option maxHeartbeats 1000000 in
theorem sTreeOf_any (s : List Ent) (v : Value) (w : World) (h : SL (RF Ent.enc) 2 w v s) (hl : s.length ≤ 1048576) :
    Calls Tryz.prog 59 #[v] w fun e w' => ∃ v0 v1 v2 bs, e = .returned (.agg #[v0, v1, v2]) ∧ Up w w' ∧ bs.map TB.core = (treeOf s).bs ∧ (entsOk 1 s = true → bs = [fb s]) ∧ (entsOk 1 s = false → bs = []) ∧ OT 64 54 106 3 w.heap.size w'.heap.size w' v0 v1 v2 (treeOf s).base bs (treeOf s).pr := by
  have H := Lib.hid h
  have kv := fun w v h => sStoreValid_any s v w h
  rcases hok : entsOk 1 s with _ | _
  · clear h
    rw [hok] at kv
    have ht : treeOf s = ⟨[], [], []⟩ := by unfold treeOf; rw [hok]; rfl
    rw [ht]
    go_enter Tryz.func59, Tryz.ntmps59
    go_wp2_with (go_at_call 30; refine (kv _ _ (H.out.up (by repeat (first | (with_reducible exact Ext.refl _) | (with_reducible refine Ext.up ?_ _) | (with_reducible refine Ext.alloc ?_ _) | (with_reducible refine Ext.drew ?_) | (with_reducible refine Ext.setRow ?_ (by first | exact LeS.le | exact LeS.add _ | (simp; done) | (simp; omega)) _) | (with_reducible refine Ext.setCell ?_ (by first | exact LeS.le | exact LeS.add _ | (simp; done) | (simp; omega)) _))))).mono ?_; rintro e w' ⟨rfl, z, rfl⟩)
    refine bodyPost_ret (v := .agg #[.slice none 0 0, .slice none 0 0, .slice none 0 0]) (by simp [results, Tryz.results59, go_sem]) rfl ?_
    refine ⟨_, _, _, [], rfl, (.of (by repeat (first | (with_reducible exact Ext.refl _) | (with_reducible refine Ext.up ?_ _) | (with_reducible refine Ext.alloc ?_ _) | (with_reducible refine Ext.drew ?_) | (with_reducible refine Ext.setRow ?_ (by first | exact LeS.le | exact LeS.add _ | (simp; done) | (simp; omega)) _) | (with_reducible refine Ext.setCell ?_ (by first | exact LeS.le | exact LeS.add _ | (simp; done) | (simp; omega)) _)))), rfl, fun e => (by cases e), fun _ => rfl, OT.nil _ _ _ _ _ _ _ ?_⟩
    simp [setCell_size]
    have := z.ext.size
    simp at this
    omega
  rw [hok] at kv
  have ht : treeOf s = ⟨s, [(firstB s, [])], [-1]⟩ := by unfold treeOf; rw [hok]; rfl
  rw [ht]
  obtain ⟨p, c, rfl, _, _⟩ := h.openc
  by_cases h0 : s.length = 0
  · obtain rfl : s = [] := List.eq_nil_of_length_eq_zero h0
    clear h
    rcases p with _ | ⟨b, off, spot⟩
    · go_enter Tryz.func59, Tryz.ntmps59
      go_wp2_with (go_at_call 30; refine (kv _ _ (H.out.up (by repeat (first | (with_reducible exact Ext.refl _) | (with_reducible refine Ext.up ?_ _) | (with_reducible refine Ext.alloc ?_ _) | (with_reducible refine Ext.drew ?_) | (with_reducible refine Ext.setRow ?_ (by first | exact LeS.le | exact LeS.add _ | (simp; done) | (simp; omega)) _) | (with_reducible refine Ext.setCell ?_ (by first | exact LeS.le | exact LeS.add _ | (simp; done) | (simp; omega)) _))))).mono ?_; rintro e w' ⟨rfl, z, rfl⟩)
      refine (sFB [] _ _ (H.out.up (by repeat (first | (with_reducible exact Ext.refl _) | (with_reducible refine Ext.up ?_ _) | (with_reducible refine Ext.alloc ?_ _) | (with_reducible refine Ext.drew ?_) | (with_reducible refine Ext.setRow ?_ (by first | exact LeS.le | exact LeS.add _ | (simp; done) | (simp; omega)) _) | (with_reducible refine Ext.setCell ?_ (by first | exact LeS.le | exact LeS.add _ | (simp; done) | (simp; omega)) _))))).mono ?_; rintro e w' ⟨rfl, ⟨z2, rfl⟩⟩
      have O0 := Lib.hid (show Own Ent.enc 64 2 z.val.heap.size (z.val.alloc (.cells #[] 64)) (.slice (some ⟨z.val.heap.size, 0, none⟩) ([] : List Ent).length 0) [] from Own.lit rfl (Nat.le_refl _) rfl rfl Ent.enc_length (by simp))
      go_wp2_with fail
      refine bodyPost_ret (v := .agg #[.slice (some ⟨z.val.heap.size, 0, none⟩) 0 0, .slice (some ⟨z2.val.heap.size, 0, none⟩) 1 1, .slice (some ⟨z2.val.heap.size + 1, 0, none⟩) 1 1]) (by simp [results, Tryz.results59, go_sem]) rfl ?_
      have hz : w.heap.size + 1 ≤ z.val.heap.size := by have := z.ext.size; simpa using this
      have T := OT.yes 64 54 106 3 z.val ⟨z.val.alloc (.cells #[] 64), (Ext.refl _).alloc _⟩ z2 [] _ _ O0.out
      refine ⟨_, _, _, [fb []], rfl, (.of (by repeat (first | (with_reducible exact Ext.refl _) | (with_reducible refine Ext.up ?_ _) | (with_reducible refine Ext.alloc ?_ _) | (with_reducible refine Ext.drew ?_) | (with_reducible refine Ext.setRow ?_ (by first | exact LeS.le | exact LeS.add _ | (simp; done) | (simp; omega)) _) | (with_reducible refine Ext.setCell ?_ (by first | exact LeS.le | exact LeS.add _ | (simp; done) | (simp; omega)) _)))), rfl, fun _ => rfl, fun e => (by cases e), OT.mono (OT.setOld (OT.setOld (OT.setOld T ⟨w.heap.size, 0, none⟩ _ (show w.heap.size < _ by omega)) ⟨w.heap.size, 1, none⟩ _ (show w.heap.size < _ by omega)) ⟨w.heap.size, 2, none⟩ _ (show w.heap.size < _ by omega)) (by omega) (by simp [setCell_size])⟩
    · go_enter Tryz.func59, Tryz.ntmps59
      go_wp2_with (go_at_call 30; refine (kv _ _ (H.out.up (by repeat (first | (with_reducible exact Ext.refl _) | (with_reducible refine Ext.up ?_ _) | (with_reducible refine Ext.alloc ?_ _) | (with_reducible refine Ext.drew ?_) | (with_reducible refine Ext.setRow ?_ (by first | exact LeS.le | exact LeS.add _ | (simp; done) | (simp; omega)) _) | (with_reducible refine Ext.setCell ?_ (by first | exact LeS.le | exact LeS.add _ | (simp; done) | (simp; omega)) _))))).mono ?_; rintro e w' ⟨rfl, z, rfl⟩)
      refine (sFB [] _ _ (H.out.up (by repeat (first | (with_reducible exact Ext.refl _) | (with_reducible refine Ext.up ?_ _) | (with_reducible refine Ext.alloc ?_ _) | (with_reducible refine Ext.drew ?_) | (with_reducible refine Ext.setRow ?_ (by first | exact LeS.le | exact LeS.add _ | (simp; done) | (simp; omega)) _) | (with_reducible refine Ext.setCell ?_ (by first | exact LeS.le | exact LeS.add _ | (simp; done) | (simp; omega)) _))))).mono ?_; rintro e w' ⟨rfl, ⟨z2, rfl⟩⟩
      have O0 := Lib.hid (show Own Ent.enc 64 2 z.val.heap.size (z.val.alloc (.cells #[] 64)) (.slice (some ⟨z.val.heap.size, 0, none⟩) ([] : List Ent).length 0) [] from Own.lit rfl (Nat.le_refl _) rfl rfl Ent.enc_length (by simp))
      go_wp2_with fail
      refine bodyPost_ret (v := .agg #[.slice (some ⟨z.val.heap.size, 0, none⟩) 0 0, .slice (some ⟨z2.val.heap.size, 0, none⟩) 1 1, .slice (some ⟨z2.val.heap.size + 1, 0, none⟩) 1 1]) (by simp [results, Tryz.results59, go_sem]) rfl ?_
      have hz : w.heap.size + 1 ≤ z.val.heap.size := by have := z.ext.size; simpa using this
      have T := OT.yes 64 54 106 3 z.val ⟨z.val.alloc (.cells #[] 64), (Ext.refl _).alloc _⟩ z2 [] _ _ O0.out
      refine ⟨_, _, _, [fb []], rfl, (.of (by repeat (first | (with_reducible exact Ext.refl _) | (with_reducible refine Ext.up ?_ _) | (with_reducible refine Ext.alloc ?_ _) | (with_reducible refine Ext.drew ?_) | (with_reducible refine Ext.setRow ?_ (by first | exact LeS.le | exact LeS.add _ | (simp; done) | (simp; omega)) _) | (with_reducible refine Ext.setCell ?_ (by first | exact LeS.le | exact LeS.add _ | (simp; done) | (simp; omega)) _)))), rfl, fun _ => rfl, fun e => (by cases e), OT.mono (OT.setOld (OT.setOld (OT.setOld T ⟨w.heap.size, 0, none⟩ _ (show w.heap.size < _ by omega)) ⟨w.heap.size, 1, none⟩ _ (show w.heap.size < _ by omega)) ⟨w.heap.size, 2, none⟩ _ (show w.heap.size < _ by omega)) (by omega) (by simp [setCell_size])⟩
  · obtain ⟨x, hx⟩ := getElem?_some_of_lt (l := s) (k := 0) (by omega)
    obtain ⟨_, _, e, _, hc⟩ := h.open
    cases e
    obtain ⟨b, off, rfl, _⟩ := hc 0 x hx
    clear h hc hx
    go_enter Tryz.func59, Tryz.ntmps59
    go_wp2_with (first | (go_at_call 30; refine (kv _ _ (H.out.up (by repeat (first | (with_reducible exact Ext.refl _) | (with_reducible refine Ext.up ?_ _) | (with_reducible refine Ext.alloc ?_ _) | (with_reducible refine Ext.drew ?_) | (with_reducible refine Ext.setRow ?_ (by first | exact LeS.le | exact LeS.add _ | (simp; done) | (simp; omega)) _) | (with_reducible refine Ext.setCell ?_ (by first | exact LeS.le | exact LeS.add _ | (simp; done) | (simp; omega)) _))))).mono ?_; rintro e w' ⟨rfl, z, rfl⟩) | (at_builtin; refine wpList_cat fEnt rfl (.tmp 7) (.tmp 8) rfl Ent.enc Ent.enc_length z.val s [] rfl (Own.lit rfl (Nat.le_refl _) rfl rfl Ent.enc_length (by simp)) (by repeat (first | (with_reducible exact Ext.refl _) | (with_reducible refine Ext.up ?_ _) | (with_reducible refine Ext.alloc ?_ _) | (with_reducible refine Ext.drew ?_) | (with_reducible refine Ext.setRow ?_ (by first | exact LeS.le | exact LeS.add _ | (simp; done) | (simp; omega)) _) | (with_reducible refine Ext.setCell ?_ (by first | exact LeS.le | exact LeS.add _ | (simp; done) | (simp; omega)) _))) (Nat.le_refl _) LeS.le rfl rfl (H.out.up (by repeat (first | (with_reducible exact Ext.refl _) | (with_reducible refine Ext.up ?_ _) | (with_reducible refine Ext.alloc ?_ _) | (with_reducible refine Ext.drew ?_) | (with_reducible refine Ext.setRow ?_ (by first | exact LeS.le | exact LeS.add _ | (simp; done) | (simp; omega)) _) | (with_reducible refine Ext.setCell ?_ (by first | exact LeS.le | exact LeS.add _ | (simp; done) | (simp; omega)) _)))) (oneEs _) (by simp; omega) (by simp; omega) ?_; intro v1 z1 o1; obtain ⟨p0, c0, hv0, _, _⟩ := (o1.sl Ent.enc_length).openc; subst hv0))
    have O0 := Lib.hid (show Own Ent.enc 64 2 z.val.heap.size z1.val (.slice p0 s.length c0) s from o1); clear o1
    refine (sFB s _ _ (H.out.up (by repeat (first | (with_reducible exact Ext.refl _) | (with_reducible refine Ext.up ?_ _) | (with_reducible refine Ext.alloc ?_ _) | (with_reducible refine Ext.drew ?_) | (with_reducible refine Ext.setRow ?_ (by first | exact LeS.le | exact LeS.add _ | (simp; done) | (simp; omega)) _) | (with_reducible refine Ext.setCell ?_ (by first | exact LeS.le | exact LeS.add _ | (simp; done) | (simp; omega)) _))))).mono ?_; rintro e w' ⟨rfl, ⟨z2, rfl⟩⟩
    go_wp2_with fail
    refine bodyPost_ret (v := .agg #[.slice p0 s.length c0, .slice (some ⟨z2.val.heap.size, 0, none⟩) 1 1, .slice (some ⟨z2.val.heap.size + 1, 0, none⟩) 1 1]) (by simp [results, Tryz.results59, go_sem]) rfl ?_
    have hz : w.heap.size + 1 ≤ z.val.heap.size := by have := z.ext.size; simpa using this
    have T := OT.yes 64 54 106 3 z.val z1 z2 s p0 c0 O0.out
    refine ⟨_, _, _, [fb s], rfl, (.of (by repeat (first | (with_reducible exact Ext.refl _) | (with_reducible refine Ext.up ?_ _) | (with_reducible refine Ext.alloc ?_ _) | (with_reducible refine Ext.drew ?_) | (with_reducible refine Ext.setRow ?_ (by first | exact LeS.le | exact LeS.add _ | (simp; done) | (simp; omega)) _) | (with_reducible refine Ext.setCell ?_ (by first | exact LeS.le | exact LeS.add _ | (simp; done) | (simp; omega)) _)))), rfl, fun _ => rfl, fun e => (by cases e), OT.mono (OT.setOld (OT.setOld (OT.setOld T ⟨w.heap.size, 0, none⟩ _ (show w.heap.size < _ by omega)) ⟨w.heap.size, 1, none⟩ _ (show w.heap.size < _ by omega)) ⟨w.heap.size, 2, none⟩ _ (show w.heap.size < _ by omega)) (by omega) (by simp [setCell_size])⟩
end Go.Proofs.YteiemjebdhmnaaaGreat
namespace Go.Proofs.YteiemjebdhmnaaaGreat
open Go Go.RowKit Go.Proofs

end Go.Proofs.YteiemjebdhmnaaaGreat
