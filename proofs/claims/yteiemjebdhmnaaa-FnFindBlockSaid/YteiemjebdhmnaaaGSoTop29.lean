/- The law FnExactFirstBlock's walk. Walks: new trees. Plain ground: trees of the call's own in which one number is turned, or that have an entry more. Walks: drawn effects. -/
import Derived.Test.YteiemjebdhmnaaaGSoTop15
import Derived.Test.YteiemjebdhmnaaaGSoTop17
import Derived.Test.YteiemjebdhmnaaaGSoTop20
import Derived.Laws.AppendOwnNone
import Derived.Test.YteiemjebdhmnaaaGSoTop13
set_option linter.unusedSimpArgs false
set_option linter.unusedVariables false
namespace Go.Proofs.Yteiemjebdhmnaaa
open Go Go.RowKit Go.Proofs

theorem cell_blk {w w' : World} {b : Nat} (h : w'.heap[b]? = w.heap[b]?) (i : Nat) : w'.cell? ⟨b, i, none⟩ = w.cell? ⟨b, i, none⟩ := by
  simp only [World.cell?, h]
theorem sFB (s : List Ent) (v : Value) (w : World) (h : SL (RF Ent.enc) 2 w v s) : Calls Try.prog 41 #[v] w fun e w' => e = .returned (.agg #[.int .i64 (firstB s).bf, .int .i64 (firstB s).ht, .int .i64 (firstB s).vw, .slice none 0 0, .int .i64 (firstB s).rt, .int .i64 (firstB s).ef]) ∧ Up w w' := sFirstBlock_any s v w h
theorem iFB (s : List Ent) (v : Value) (w : World) (h : SL (RF Ent.enc) 2 w v s) : Calls Try.prog 62 #[v] w fun e w' => e = .returned (.agg #[.int .i64 (firstB s).bf, .int .i64 (firstB s).ht, .int .i64 (firstB s).vw, .slice none 0 0, .int .i64 (firstB s).rt, .int .i64 (firstB s).ef]) ∧ Up w w' := iFirstBlock_any s v w h
end Go.Proofs.Yteiemjebdhmnaaa
namespace Go.Proofs.Yteiemjebdhmnaaa
open Go Go.RowKit Go.Proofs

theorem SL.flat {α : Type} {enc : α → List Value} {sz : Nat} (he : ∀ x, (enc x).length = sz) {w : World} {b off n c : Nat} {l : List α} (h : SL (RF enc) sz w (.slice (some ⟨b, off, none⟩) n c) l) : ∀ j u, (l.flatMap enc)[j]? = some u → w.cell? ⟨b, off + j, none⟩ = some u := by
  intro j u hu
  obtain ⟨a', c', e, _, hc⟩ := h.open
  cases e
  have hj := (List.getElem?_eq_some_iff.1 hu).1
  rw [flatMap_length he] at hj
  have hsz : 0 < sz := by
    rcases Nat.eq_zero_or_pos sz with h0 | h0
    · subst h0; simp at hj
    · exact h0
  have hi : j / sz < l.length := Nat.div_lt_of_lt_mul (by rw [Nat.mul_comm]; exact hj)
  obtain ⟨x, hx⟩ := getElem?_some_of_lt hi
  have hm : j % sz < (enc x).length := by rw [he]; exact Nat.mod_lt _ hsz
  obtain ⟨u', hu'⟩ := getElem?_some_of_lt hm
  have e : j / sz * sz + j % sz = j := by rw [Nat.mul_comm]; exact Nat.div_add_mod j sz
  have h1 := flatMap_get he hx hu'
  rw [e, hu] at h1
  cases h1
  obtain ⟨b', off', e2, _, hcc⟩ := hc _ x hx
  cases e2
  have h2 := hcc _ _ hu'
  rwa [Nat.add_assoc, e] at h2
/-- append of a whole slice behind one of the call's own. -/
theorem wpList_cat {P : Program} {t e sz bytes : Nat} (F : AppFacts P t e sz bytes) {ops : Array Oper} {rest : List Oper} {o : Oper} {a : Act} {Q : Exit → Act → World → Prop} (hgd : o.guard = none) (s x : Operand)
    (ho : o.op = .call { callee := .builtin .append, args := #[s, x], argTypes := #[t, t] }) {α : Type} (enc : α → List Value) (he : ∀ x, (enc x).length = sz) (Wb : World) {lo : Nat} {w : World} (ys : List α) (l : List α) {v : Value} (hs : a.eval s = v)
    (hown : Own enc e sz lo w v l) (hE : Ext Wb w) (hlo : Wb.heap.size ≤ lo) (hlo' : lo ≤ w.heap.size) {b off m c : Nat} (hx : a.eval x = .slice (some ⟨b, off, none⟩) m c) (hm : m = ys.length) (hys : SL (RF enc) sz w (.slice (some ⟨b, off, none⟩) m c) ys)
    (h1 : ∀ u ∈ ys.flatMap enc, u.oneCell' = true) (hb : (l.length + ys.length) * bytes ≤ 140737488355328) (hb' : l.length + ys.length ≤ 9223372036854775807)
    (h : ∀ v' (z1 : Extd Wb), Own enc e sz lo z1.val v' (l ++ ys) → wpList P ops Q rest (a.put o.dst v') z1.val) : wpList P ops Q (o :: rest) a w := by
  subst hm
  obtain ⟨i, z, hi, hz, hsize, hby, hzs⟩ := F.info
  have hown' : w.ownsRow lo e sz v l.length (l.flatMap enc) := hown
  refine wpList_append_own_at _ hgd s x t ho lo e i z sz bytes F.und hi hz hsize hby hzs F.pos v l.length (l.flatMap enc) hs hown' ⟨b, off, none⟩ ys.length c (ys.flatMap enc) hx (flatMap_length he ys) (fun j u hu => ?_) h1 (by simpa [maxLen] using hb') hb hlo' ?_
  · have e1 : (⟨b, off, none⟩ : Addr).add j = ⟨b, off + j, none⟩ := by unfold Addr.add; split <;> simp_all
    rw [e1]
    exact SL.flat he hys j u hu
  · intro v' w1 hown1 hg1 _ hblk
    refine h v' ⟨w1, hE.grown hg1 fun k hk => Nat.le_trans hlo (World.ownsRow.lt hown' k hk).1⟩ ?_
    show w1.ownsRow _ _ _ _ _ _
    simpa [Own] using hown1
theorem oneEs (l : List Ent) : ∀ u ∈ l.flatMap Ent.enc, u.oneCell' = true := by
  intro u hu
  obtain ⟨x, _, h⟩ := List.mem_flatMap.1 hu
  exact oneE x u h
def treeOf (s : List Ent) : Tree := if entsOk 1 s = true then ⟨s, [(firstB s, [])], [-1]⟩ else ⟨[], [], []⟩
def fb (s : List Ent) : TB := ⟨firstB s, .slice none 0 0, []⟩
theorem OB.one (eB eA lo : Nat) (w : World) (s : List Ent) (g : Nat) (hg : g = w.heap.size) (hlo : lo ≤ w.heap.size) : OB eB eA lo (w.alloc (.cells #[.int .i64 (firstB s).bf, .int .i64 (firstB s).ht, .int .i64 (firstB s).vw, .slice none 0 0, .int .i64 (firstB s).rt, .int .i64 (firstB s).ef] eB)) (.slice (some ⟨g, 0, none⟩) 1 1) [fb s] := by
  refine ⟨Own.lit hg hlo rfl rfl TB.enc_length (by simp), fun x hx => ?_, List.pairwise_singleton _ _⟩
  simp at hx
  subst hx
  exact ⟨Own.nil _ _ _ _ _, .inl rfl⟩
theorem OT.nil (eE eB eA eI lo hi : Nat) (w : World) (h : lo ≤ hi) : OT eE eB eA eI lo hi w (.slice none 0 0) (.slice none 0 0) (.slice none 0 0) [] [] [] :=
  ⟨lo, lo, Nat.le_refl _, Nat.le_refl _, h, Own.nil _ _ _ _ _, (fun k hk => by cases hk), ⟨Own.nil _ _ _ _ _, (fun x hx => by cases hx), List.Pairwise.nil⟩, (fun k hk => by cases hk), (fun x hx => by cases hx), Own.nil _ _ _ _ _, (fun k hk => by cases hk)⟩
theorem OT.yes (eE eB eA eI : Nat) (W : World) (z1 : Extd W) (z2 : Extd z1.val) (s : List Ent) (p0 : Option Addr) (c0 : Nat) (h : Own Ent.enc eE 2 W.heap.size z1.val (.slice p0 s.length c0) s) :
    OT eE eB eA eI W.heap.size (z2.val.heap.size + 1 + 1) ((z2.val.alloc (.cells #[.int .i64 (firstB s).bf, .int .i64 (firstB s).ht, .int .i64 (firstB s).vw, .slice none 0 0, .int .i64 (firstB s).rt, .int .i64 (firstB s).ef] eB)).alloc (.cells #[.int .i64 (-1)] eI)) (.slice p0 s.length c0) (.slice (some ⟨z2.val.heap.size, 0, none⟩) 1 1) (.slice (some ⟨z2.val.heap.size + 1, 0, none⟩) 1 1) s [fb s] [-1] := by
  have h1 := z1.ext.size
  have h2 := z2.ext.size
  refine ⟨z1.val.heap.size, z2.val.heap.size + 1, h1, by omega, by omega, h.up (((z2.ext).alloc _).alloc _), h.under, ?_, (fun k hk => ?_), (fun x hx => ?_), ?_, (fun k hk => ?_)⟩
  · exact (OB.one eB eA z1.val.heap.size z2.val s z2.val.heap.size rfl h2).up ((Ext.refl _).alloc _)
  · have : z2.val.heap.size = k := by simpa [Value.ownBlock] using hk
    omega
  · simp at hx
    subst hx
    intro k hk
    cases hk
  · exact Own.lit (by simp) (by simp) rfl rfl encI_length (by simp)
  · have : z2.val.heap.size + 1 = k := by simpa [Value.ownBlock] using hk
    omega
set_option maxRecDepth 100000 in
set_option maxHeartbeats 1000000 in
theorem sTreeOf_any (s : List Ent) (v : Value) (w : World) (h : SL (RF Ent.enc) 2 w v s) (hl : s.length ≤ 1048576) :
    Calls Try.prog 77 #[v] w fun e w' => ∃ v0 v1 v2 bs, e = .returned (.agg #[v0, v1, v2]) ∧ Up w w' ∧ bs.map TB.core = (treeOf s).bs ∧ (entsOk 1 s = true → bs = [fb s]) ∧ (entsOk 1 s = false → bs = []) ∧ OT 61 39 85 3 w.heap.size w'.heap.size w' v0 v1 v2 (treeOf s).base bs (treeOf s).pr := by
  have H := Lib.hid h
  have kv := fun w v h => sStoreValid_any s v w h
  rcases hok : entsOk 1 s with _ | _
  · clear h
    rw [hok] at kv
    have ht : treeOf s = ⟨[], [], []⟩ := by unfold treeOf; rw [hok]; rfl
    rw [ht]
    go_enter Try.func77, Try.ntmps77
    go_wp2_with (go_at_call 35; refine (kv _ _ (H.out.up (by repeat (first | (with_reducible exact Ext.refl _) | (with_reducible refine Ext.up ?_ _) | (with_reducible refine Ext.alloc ?_ _) | (with_reducible refine Ext.drew ?_) | (with_reducible refine Ext.setRow ?_ (by first | exact LeS.le | exact LeS.add _ | (simp; done) | (simp; omega)) _) | (with_reducible refine Ext.setCell ?_ (by first | exact LeS.le | exact LeS.add _ | (simp; done) | (simp; omega)) _))))).mono ?_; rintro e w' ⟨rfl, z, rfl⟩)
    refine bodyPost_ret (v := .agg #[.slice none 0 0, .slice none 0 0, .slice none 0 0]) (by simp [results, Try.results77, go_sem]) rfl ?_
    refine ⟨_, _, _, [], rfl, (.of (by repeat (first | (with_reducible exact Ext.refl _) | (with_reducible refine Ext.up ?_ _) | (with_reducible refine Ext.alloc ?_ _) | (with_reducible refine Ext.drew ?_) | (with_reducible refine Ext.setRow ?_ (by first | exact LeS.le | exact LeS.add _ | (simp; done) | (simp; omega)) _) | (with_reducible refine Ext.setCell ?_ (by first | exact LeS.le | exact LeS.add _ | (simp; done) | (simp; omega)) _)))), rfl, fun e => (by cases e), fun _ => rfl, OT.nil _ _ _ _ _ _ _ ?_⟩
    simp [setCell_size]
    have := z.ext.size
    simp at this
    omega
  rw [hok] at kv
  have ht : treeOf s = ⟨s, [(firstB s, [])], [-1]⟩ := by unfold treeOf; rw [hok]; rfl
  rw [ht]
  obtain ⟨p, c, rfl, _, _⟩ := h.openc
  by_cases h0 : s.length = 0
  · obtain rfl : s = [] := List.eq_nil_of_length_eq_zero h0
    clear h
    rcases p with _ | ⟨b, off, spot⟩
    · go_enter Try.func77, Try.ntmps77
      go_wp2_with (go_at_call 35; refine (kv _ _ (H.out.up (by repeat (first | (with_reducible exact Ext.refl _) | (with_reducible refine Ext.up ?_ _) | (with_reducible refine Ext.alloc ?_ _) | (with_reducible refine Ext.drew ?_) | (with_reducible refine Ext.setRow ?_ (by first | exact LeS.le | exact LeS.add _ | (simp; done) | (simp; omega)) _) | (with_reducible refine Ext.setCell ?_ (by first | exact LeS.le | exact LeS.add _ | (simp; done) | (simp; omega)) _))))).mono ?_; rintro e w' ⟨rfl, z, rfl⟩)
      refine (sFB [] _ _ (H.out.up (by repeat (first | (with_reducible exact Ext.refl _) | (with_reducible refine Ext.up ?_ _) | (with_reducible refine Ext.alloc ?_ _) | (with_reducible refine Ext.drew ?_) | (with_reducible refine Ext.setRow ?_ (by first | exact LeS.le | exact LeS.add _ | (simp; done) | (simp; omega)) _) | (with_reducible refine Ext.setCell ?_ (by first | exact LeS.le | exact LeS.add _ | (simp; done) | (simp; omega)) _))))).mono ?_; rintro e w' ⟨rfl, ⟨z2, rfl⟩⟩
      have O0 := Lib.hid (show Own Ent.enc 61 2 z.val.heap.size (z.val.alloc (.cells #[] 61)) (.slice (some ⟨z.val.heap.size, 0, none⟩) ([] : List Ent).length 0) [] from Own.lit rfl (Nat.le_refl _) rfl rfl Ent.enc_length (by simp))
      go_wp2_with fail
      refine bodyPost_ret (v := .agg #[.slice (some ⟨z.val.heap.size, 0, none⟩) 0 0, .slice (some ⟨z2.val.heap.size, 0, none⟩) 1 1, .slice (some ⟨z2.val.heap.size + 1, 0, none⟩) 1 1]) (by simp [results, Try.results77, go_sem]) rfl ?_
      have hz : w.heap.size + 1 ≤ z.val.heap.size := by have := z.ext.size; simpa using this
      have T := OT.yes 61 39 85 3 z.val ⟨z.val.alloc (.cells #[] 61), (Ext.refl _).alloc _⟩ z2 [] _ _ O0.out
      refine ⟨_, _, _, [fb []], rfl, (.of (by repeat (first | (with_reducible exact Ext.refl _) | (with_reducible refine Ext.up ?_ _) | (with_reducible refine Ext.alloc ?_ _) | (with_reducible refine Ext.drew ?_) | (with_reducible refine Ext.setRow ?_ (by first | exact LeS.le | exact LeS.add _ | (simp; done) | (simp; omega)) _) | (with_reducible refine Ext.setCell ?_ (by first | exact LeS.le | exact LeS.add _ | (simp; done) | (simp; omega)) _)))), rfl, fun _ => rfl, fun e => (by cases e), OT.mono (OT.setOld (OT.setOld (OT.setOld T ⟨w.heap.size, 0, none⟩ _ (show w.heap.size < _ by omega)) ⟨w.heap.size, 1, none⟩ _ (show w.heap.size < _ by omega)) ⟨w.heap.size, 2, none⟩ _ (show w.heap.size < _ by omega)) (by omega) (by simp [setCell_size])⟩
    · go_enter Try.func77, Try.ntmps77
      go_wp2_with (go_at_call 35; refine (kv _ _ (H.out.up (by repeat (first | (with_reducible exact Ext.refl _) | (with_reducible refine Ext.up ?_ _) | (with_reducible refine Ext.alloc ?_ _) | (with_reducible refine Ext.drew ?_) | (with_reducible refine Ext.setRow ?_ (by first | exact LeS.le | exact LeS.add _ | (simp; done) | (simp; omega)) _) | (with_reducible refine Ext.setCell ?_ (by first | exact LeS.le | exact LeS.add _ | (simp; done) | (simp; omega)) _))))).mono ?_; rintro e w' ⟨rfl, z, rfl⟩)
      refine (sFB [] _ _ (H.out.up (by repeat (first | (with_reducible exact Ext.refl _) | (with_reducible refine Ext.up ?_ _) | (with_reducible refine Ext.alloc ?_ _) | (with_reducible refine Ext.drew ?_) | (with_reducible refine Ext.setRow ?_ (by first | exact LeS.le | exact LeS.add _ | (simp; done) | (simp; omega)) _) | (with_reducible refine Ext.setCell ?_ (by first | exact LeS.le | exact LeS.add _ | (simp; done) | (simp; omega)) _))))).mono ?_; rintro e w' ⟨rfl, ⟨z2, rfl⟩⟩
      have O0 := Lib.hid (show Own Ent.enc 61 2 z.val.heap.size (z.val.alloc (.cells #[] 61)) (.slice (some ⟨z.val.heap.size, 0, none⟩) ([] : List Ent).length 0) [] from Own.lit rfl (Nat.le_refl _) rfl rfl Ent.enc_length (by simp))
      go_wp2_with fail
      refine bodyPost_ret (v := .agg #[.slice (some ⟨z.val.heap.size, 0, none⟩) 0 0, .slice (some ⟨z2.val.heap.size, 0, none⟩) 1 1, .slice (some ⟨z2.val.heap.size + 1, 0, none⟩) 1 1]) (by simp [results, Try.results77, go_sem]) rfl ?_
      have hz : w.heap.size + 1 ≤ z.val.heap.size := by have := z.ext.size; simpa using this
      have T := OT.yes 61 39 85 3 z.val ⟨z.val.alloc (.cells #[] 61), (Ext.refl _).alloc _⟩ z2 [] _ _ O0.out
      refine ⟨_, _, _, [fb []], rfl, (.of (by repeat (first | (with_reducible exact Ext.refl _) | (with_reducible refine Ext.up ?_ _) | (with_reducible refine Ext.alloc ?_ _) | (with_reducible refine Ext.drew ?_) | (with_reducible refine Ext.setRow ?_ (by first | exact LeS.le | exact LeS.add _ | (simp; done) | (simp; omega)) _) | (with_reducible refine Ext.setCell ?_ (by first | exact LeS.le | exact LeS.add _ | (simp; done) | (simp; omega)) _)))), rfl, fun _ => rfl, fun e => (by cases e), OT.mono (OT.setOld (OT.setOld (OT.setOld T ⟨w.heap.size, 0, none⟩ _ (show w.heap.size < _ by omega)) ⟨w.heap.size, 1, none⟩ _ (show w.heap.size < _ by omega)) ⟨w.heap.size, 2, none⟩ _ (show w.heap.size < _ by omega)) (by omega) (by simp [setCell_size])⟩
  · obtain ⟨x, hx⟩ := getElem?_some_of_lt (l := s) (k := 0) (by omega)
    obtain ⟨_, _, e, _, hc⟩ := h.open
    cases e
    obtain ⟨b, off, rfl, _⟩ := hc 0 x hx
    clear h hc hx
    go_enter Try.func77, Try.ntmps77
    go_wp2_with (first | (go_at_call 35; refine (kv _ _ (H.out.up (by repeat (first | (with_reducible exact Ext.refl _) | (with_reducible refine Ext.up ?_ _) | (with_reducible refine Ext.alloc ?_ _) | (with_reducible refine Ext.drew ?_) | (with_reducible refine Ext.setRow ?_ (by first | exact LeS.le | exact LeS.add _ | (simp; done) | (simp; omega)) _) | (with_reducible refine Ext.setCell ?_ (by first | exact LeS.le | exact LeS.add _ | (simp; done) | (simp; omega)) _))))).mono ?_; rintro e w' ⟨rfl, z, rfl⟩) | (at_builtin; refine wpList_cat fEnt rfl (.tmp 7) (.tmp 8) rfl Ent.enc Ent.enc_length z.val s [] rfl (Own.lit rfl (Nat.le_refl _) rfl rfl Ent.enc_length (by simp)) (by repeat (first | (with_reducible exact Ext.refl _) | (with_reducible refine Ext.up ?_ _) | (with_reducible refine Ext.alloc ?_ _) | (with_reducible refine Ext.drew ?_) | (with_reducible refine Ext.setRow ?_ (by first | exact LeS.le | exact LeS.add _ | (simp; done) | (simp; omega)) _) | (with_reducible refine Ext.setCell ?_ (by first | exact LeS.le | exact LeS.add _ | (simp; done) | (simp; omega)) _))) (Nat.le_refl _) LeS.le rfl rfl (H.out.up (by repeat (first | (with_reducible exact Ext.refl _) | (with_reducible refine Ext.up ?_ _) | (with_reducible refine Ext.alloc ?_ _) | (with_reducible refine Ext.drew ?_) | (with_reducible refine Ext.setRow ?_ (by first | exact LeS.le | exact LeS.add _ | (simp; done) | (simp; omega)) _) | (with_reducible refine Ext.setCell ?_ (by first | exact LeS.le | exact LeS.add _ | (simp; done) | (simp; omega)) _)))) (oneEs _) (by simp; omega) (by simp; omega) ?_; intro v1 z1 o1; obtain ⟨p0, c0, hv0, _, _⟩ := (o1.sl Ent.enc_length).openc; subst hv0))
    have O0 := Lib.hid (show Own Ent.enc 61 2 z.val.heap.size z1.val (.slice p0 s.length c0) s from o1); clear o1
    refine (sFB s _ _ (H.out.up (by repeat (first | (with_reducible exact Ext.refl _) | (with_reducible refine Ext.up ?_ _) | (with_reducible refine Ext.alloc ?_ _) | (with_reducible refine Ext.drew ?_) | (with_reducible refine Ext.setRow ?_ (by first | exact LeS.le | exact LeS.add _ | (simp; done) | (simp; omega)) _) | (with_reducible refine Ext.setCell ?_ (by first | exact LeS.le | exact LeS.add _ | (simp; done) | (simp; omega)) _))))).mono ?_; rintro e w' ⟨rfl, ⟨z2, rfl⟩⟩
    go_wp2_with fail
    refine bodyPost_ret (v := .agg #[.slice p0 s.length c0, .slice (some ⟨z2.val.heap.size, 0, none⟩) 1 1, .slice (some ⟨z2.val.heap.size + 1, 0, none⟩) 1 1]) (by simp [results, Try.results77, go_sem]) rfl ?_
    have hz : w.heap.size + 1 ≤ z.val.heap.size := by have := z.ext.size; simpa using this
    have T := OT.yes 61 39 85 3 z.val z1 z2 s p0 c0 O0.out
    refine ⟨_, _, _, [fb s], rfl, (.of (by repeat (first | (with_reducible exact Ext.refl _) | (with_reducible refine Ext.up ?_ _) | (with_reducible refine Ext.alloc ?_ _) | (with_reducible refine Ext.drew ?_) | (with_reducible refine Ext.setRow ?_ (by first | exact LeS.le | exact LeS.add _ | (simp; done) | (simp; omega)) _) | (with_reducible refine Ext.setCell ?_ (by first | exact LeS.le | exact LeS.add _ | (simp; done) | (simp; omega)) _)))), rfl, fun _ => rfl, fun e => (by cases e), OT.mono (OT.setOld (OT.setOld (OT.setOld T ⟨w.heap.size, 0, none⟩ _ (show w.heap.size < _ by omega)) ⟨w.heap.size, 1, none⟩ _ (show w.heap.size < _ by omega)) ⟨w.heap.size, 2, none⟩ _ (show w.heap.size < _ by omega)) (by omega) (by simp [setCell_size])⟩
end Go.Proofs.Yteiemjebdhmnaaa
namespace Go.Proofs.Yteiemjebdhmnaaa
open Go Go.RowKit Go.Proofs

theorem flatMap_set {α : Type} {enc : α → List Value} {sz : Nat} (he : ∀ x, (enc x).length = sz) {x' : α} {j : Nat} {u : Value} (hj : j < sz) : ∀ {l : List α} {k : Nat} {x : α}, l[k]? = some x → enc x' = (enc x).set j u → (l.flatMap enc).set (k * sz + j) u = (l.set k x').flatMap enc
  | [], k, x, h, _ => by simp at h
  | y :: l, 0, x, h, hu => by
    simp at h; subst h
    rw [List.set_cons_zero, List.flatMap_cons, List.flatMap_cons, hu, List.set_append_left _ _ (by rw [he]; omega)]
    simp
  | y :: l, k + 1, x, h, hu => by
    simp at h
    rw [List.set_cons_succ, List.flatMap_cons, List.flatMap_cons, List.set_append_right _ _ (by rw [he, Nat.succ_mul]; omega), he, show (k + 1) * sz + j - sz = k * sz + j from by rw [Nat.succ_mul]; omega]
    rw [flatMap_set he hj h hu]
theorem Own.setAt {α : Type} {enc : α → List Value} {e sz lo g n c : Nat} (he : ∀ x, (enc x).length = sz) {w : World} {l : List α} (h : Own enc e sz lo w (.slice (some ⟨g, 0, none⟩) n c) l) {k : Nat} {x x' : α} {j : Nat} {u : Value} (hx : l[k]? = some x) (hj : j < sz) (hu : enc x' = (enc x).set j u) :
    Own enc e sz lo (w.setCell ⟨g, k * sz + j, none⟩ u) (.slice (some ⟨g, 0, none⟩) n c) (l.set k x') := by
  have hn : n = l.length := by
    rcases h.2 with ⟨h0, _⟩ | ⟨g', cap', cur, hv, _⟩
    · cases h0
    · cases hv; rfl
  subst hn
  have h2 := (World.ownsRow.stored h (k * sz + j) u).1
  rw [flatMap_set he hj hx hu] at h2
  show World.ownsRow _ _ _ _ _ _ _
  rw [List.length_set]
  exact h2
section
variable {eE eB eA eI lo : Nat} {w w' : World} {v0 v1 v2 : Value} {base : List Ent} {bs : List TB} {pr : List Int}
theorem ob_pair {bs : List TB} : bs.Pairwise (fun x y => Apart x.v y.v) ↔ (bs.map TB.v).Pairwise Apart := by rw [List.pairwise_map]
theorem map_set_v {bs : List TB} {k : Nat} {x x' : TB} (hx : bs[k]? = some x) (hv : x'.v = x.v) : (bs.set k x').map TB.v = bs.map TB.v := by
  rw [List.map_set]
  apply List.ext_getElem?
  intro i
  rw [List.getElem?_set]
  split
  · rename_i e
    subst e
    split
    · rw [List.getElem?_map, hx, hv]; rfl
    · rename_i h1
      have := (List.getElem?_eq_some_iff.1 hx).1
      simp at h1; omega
  · rfl
theorem OTA.setB {g n c : Nat} (h : OTA eE eB eA eI lo w v0 (.slice (some ⟨g, 0, none⟩) n c) v2 base bs pr) {k : Nat} {x x' : TB} {j : Nat} {u : Value} (hx : bs[k]? = some x) (hj : j < 6) (hu : x'.enc = x.enc.set j u) (hv : x'.v = x.v) (hl : x'.l = x.l) :
    OTA eE eB eA eI lo (w.setCell ⟨g, k * 6 + j, none⟩ u) v0 (.slice (some ⟨g, 0, none⟩) n c) v2 base (bs.set k x') pr := by
  have hm := List.mem_of_getElem? hx
  have ne : ∀ v : Value, Apart v (.slice (some ⟨g, 0, none⟩) n c) → v.ownBlock = none ∨ v.ownBlock ≠ some g := fun v a => a
  have hmem : ∀ y ∈ bs.set k x', ∃ z ∈ bs, y.v = z.v ∧ y.l = z.l := fun y hy => by
    rcases List.mem_or_eq_of_mem_set hy with hy | rfl
    · exact ⟨y, hy, rfl, rfl⟩
    · exact ⟨x, hm, hv, hl⟩
  refine ⟨h.obase.setApart _ u (ne _ h.a01), ⟨Own.setAt TB.enc_length h.obs.1 hx hj hu, fun y hy => ?_, ?_⟩, h.opr.setApart _ u (ne _ h.a21), h.a01, h.a21, h.a02, fun y hy => ?_, fun y hy => ?_⟩
  · obtain ⟨z, hz, e1, e2⟩ := hmem y hy
    rw [e1, e2]
    exact ⟨(h.obs.2.1 z hz).1.setApart _ u (ne _ (h.obs.2.1 z hz).2), (h.obs.2.1 z hz).2⟩
  · rw [ob_pair, map_set_v hx hv, ← ob_pair]; exact h.obs.2.2
  · obtain ⟨z, hz, e1, _⟩ := hmem y hy
    rw [e1]; exact h.in0 z hz
  · obtain ⟨z, hz, e1, _⟩ := hmem y hy
    rw [e1]; exact h.in2 z hz
theorem OTA.setI {g n c : Nat} (h : OTA eE eB eA eI lo w v0 v1 (.slice (some ⟨g, 0, none⟩) n c) base bs pr) {k : Nat} {a b : Int} (hx : pr[k]? = some a) :
    OTA eE eB eA eI lo (w.setCell ⟨g, k, none⟩ (.int .i64 b)) v0 v1 (.slice (some ⟨g, 0, none⟩) n c) base bs (pr.set k b) := by
  have ne : ∀ v : Value, Apart v (.slice (some ⟨g, 0, none⟩) n c) → v.ownBlock = none ∨ v.ownBlock ≠ some g := fun v a => a
  have ho := Own.setAt encI_length h.opr (x' := b) (j := 0) (u := .int .i64 b) hx (by decide) rfl
  rw [Nat.mul_one, Nat.add_zero] at ho
  exact ⟨h.obase.setApart _ _ (ne _ h.a02), ⟨h.obs.1.setApart _ _ (ne _ h.a21.symm), fun x hx => ⟨(h.obs.2.1 x hx).1.setApart _ _ (ne _ (h.in2 x hx)), (h.obs.2.1 x hx).2⟩, h.obs.2.2⟩, ho, h.a01, h.a21, h.a02, h.in0, h.in2⟩
theorem OTA.snocE {v0' : Value} {x : Ent} (h : OTA eE eB eA eI lo w v0 v1 v2 base bs pr) (hg : w.grownBy w' v0.ownBlock) (hb : v0'.ownBlock = v0.ownBlock ∨ v0'.ownBlock = some w.heap.size)
    (ho : Own Ent.enc eE 2 lo w' v0' (base ++ [x])) : OTA eE eB eA eI lo w' v0' v1 v2 (base ++ [x]) bs pr := by
  refine ⟨ho, ⟨h.obs.1.keep hg h.a01.symm, fun x hx => ⟨(h.obs.2.1 x hx).1.keep hg (h.in0 x hx), (h.obs.2.1 x hx).2⟩, h.obs.2.2⟩, h.opr.keep hg h.a02.symm, ?_, h.a21, ?_, fun x hx => Apart.grown (h.obs.2.1 x hx).1 (h.in0 x hx) (Nat.le_refl _) hb, h.in2⟩
  · exact (Apart.grown h.obs.1 h.a01.symm (Nat.le_refl _) hb).symm
  · exact (Apart.grown h.opr h.a02.symm (Nat.le_refl _) hb).symm
theorem OTA.rowB {m : Nat} (h : OTA eE eB eA eI lo w v0 v1 v2 base bs pr) (hm : m < bs.length) : ∃ (g off c : Nat) (x : TB), v1 = .slice (some ⟨g, off, none⟩) bs.length c ∧ off = 0 ∧ bs[m]? = some x ∧ LtS g w ∧ lo ≤ g ∧ w.cell? ⟨g, off + m * 6 + 1, none⟩ = some (.int .i64 x.b.ht) ∧ w.frozen? ⟨g, off + m * 6 + 1, none⟩ = false := by
  obtain ⟨x, hx⟩ := getElem?_some_of_lt hm
  obtain ⟨a, c, hv, _, hcc⟩ := (h.obs.1.sl TB.enc_length).open
  rcases h.obs.1.2 with ⟨h0, hn⟩ | ⟨g, cap, cur, hv', hlo, hg, _⟩
  · omega
  · have h1 := h.obs.1
    rw [hv] at hv'
    cases hv'
    obtain ⟨b, off, e, _, hcell⟩ := hcc m x hx
    cases e
    subst hv
    exact ⟨g, 0, c, x, rfl, rfl, hx, ⟨(Array.getElem?_eq_some_iff.1 hg).1⟩, hlo, hcell 1 _ rfl, World.ownsRow.frozenAt h1 _⟩
theorem OTA.rowI {m : Nat} (h : OTA eE eB eA eI lo w v0 v1 v2 base bs pr) (hm : m < pr.length) : ∃ (g off c : Nat) (a : Int), v2 = .slice (some ⟨g, off, none⟩) pr.length c ∧ off = 0 ∧ pr[m]? = some a ∧ LtS g w ∧ lo ≤ g ∧ w.cell? ⟨g, off + m, none⟩ = some (.int .i64 a) ∧ w.frozen? ⟨g, off + m, none⟩ = false := by
  obtain ⟨x, hx⟩ := getElem?_some_of_lt hm
  obtain ⟨a, c, hv, _, hcc⟩ := (h.opr.sl encI_length).open
  rcases h.opr.2 with ⟨h0, hn⟩ | ⟨g, cap, cur, hv', hlo, hg, _⟩
  · omega
  · have h1 := h.opr
    rw [hv] at hv'
    cases hv'
    obtain ⟨b, off, e, _, hcell⟩ := hcc m x hx
    cases e
    subst hv
    have hc0 := hcell 0 _ rfl
    rw [Nat.mul_one, Nat.add_zero] at hc0
    exact ⟨g, 0, c, x, rfl, rfl, hx, ⟨(Array.getElem?_eq_some_iff.1 hg).1⟩, hlo, hc0, World.ownsRow.frozenAt h1 _⟩
end
/-- What LT keeps without 'valid': for the tree that is bent. -/
structure LB (eT eE eB eA eI rb G : Nat) (w wr : World) (u0 u1 u2 : Value) (t : Tree) (bs : List TB) : Prop where
  gb : w.grownBy wr (some rb)
  box : wr.heap[G]? = some (.cells #[u0, u1, u2] eT (0, 0))
  res : wr.heap[w.heap.size]? = some (.cells #[.slice none 0 0, .slice none 0 0, .slice none 0 0] eT (0, 0))
  ot : OTA eE eB eA eI (w.heap.size + 1) wr u0 u1 u2 t.base bs t.pr
  core : bs.map TB.core = t.bs
theorem LT.lb {eT eE eB eA eI rb G : Nat} {w wr : World} {u0 u1 u2 : Value} {t : Tree} {bs : List TB} (h : LT eT eE eB eA eI rb G w wr u0 u1 u2 t bs) : LB eT eE eB eA eI rb G w wr u0 u1 u2 t bs := ⟨h.gb, h.box, h.res, h.ot, h.core⟩
end Go.Proofs.Yteiemjebdhmnaaa
namespace Go.Proofs.Yteiemjebdhmnaaa
open Go Go.RowKit Go.Proofs

end Go.Proofs.Yteiemjebdhmnaaa
