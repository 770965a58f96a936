/- Walks: serial runs of whatever stores and actions, the program's side. Plain laws: stores of trees grow block by block; right blocks stand behind right ones. Walks: trees that are copied, the reference's side. -/
import Derived.Test.YteiemjebdhmnaaaGSoTop21
import Derived.Test.YteiemjebdhmnaaaGSoTop25
import Derived.Test.YteiemjebdhmnaaaGSoTop20
set_option linter.unusedSimpArgs false
set_option linter.unusedVariables false
namespace Go.Proofs.Yteiemjebdhmnaaa
open Go Go.RowKit Go.Proofs

def srOk (s : List Ent) (l : List Actn) : Bool := entsOk 1 s && actsOk l
def srS (s : List Ent) (l : List Actn) : List Ent := if srOk s l = true then storeOf (runAll (valsOf s) l).1 else []
def srE (s : List Ent) (l : List Actn) : List Eff := if srOk s l = true then (runAll (valsOf s) l).2 else []
theorem sr_no {s : List Ent} {l : List Actn} (h : srOk s l = false) : srS s l = [] ∧ srE s l = [] := by unfold srS srE; rw [h]; exact ⟨rfl, rfl⟩
theorem sr_yes {s : List Ent} {l : List Actn} (h : srOk s l = true) : srS s l = storeOf (runAll (valsOf s) l).1 ∧ srE s l = (runAll (valsOf s) l).2 := by unfold srS srE; rw [h]; exact ⟨rfl, rfl⟩
set_option maxHeartbeats 1000000 in
theorem iRunSerial_any (s : List Ent) (l : List Actn) (v vl : Value) (w : World) (h : SL (RF Ent.enc) 2 w v s) (hl : SL (RF Actn.enc) 4 w vl l) :
    Calls Try.prog 13 #[v, vl] w fun e w' => ∃ v1 v2, e = .returned (.tuple #[v1, v2]) ∧ Up w w' ∧ SL (RF Ent.enc) 2 w' v1 (srS s l) ∧ SE w' v2 (srE s l) := by
  have H := Lib.hid h; have HL := Lib.hid hl
  rcases guards2 (entsOk 1 s) (actsOk l) with h1 | ⟨h1, h2⟩ | ⟨h1, h2⟩
  case inr.inr =>
    obtain ⟨e1, e2⟩ := sr_yes (s := s) (l := l) (by unfold srOk; rw [h1, h2]; rfl)
    rw [e1, e2]
    refine (iRunSerial_yes s l v vl w H.out HL.out h1 h2).mono ?_
    rintro e w' ⟨v1, v2, ts, rfl, hu, o1, oe, hts⟩
    have se := oe.se
    rw [hts] at se
    exact ⟨v1, v2, rfl, hu, o1.sl Ent.enc_length, se⟩
  all_goals
    obtain ⟨e1, e2⟩ := sr_no (s := s) (l := l) (by unfold srOk; simp [*])
    rw [e1, e2]
    clear h hl e1 e2
    go_enter Try.func13, Try.ntmps13
    go_wp2_with (first | (go_at_call 14; refine (iStoreValid_any s _ _ (H.out.up (by repeat (first | (with_reducible exact Ext.refl _) | (with_reducible refine Ext.up ?_ _) | (with_reducible refine Ext.alloc ?_ _) | (with_reducible refine Ext.drew ?_) | (with_reducible refine Ext.setRow ?_ (by first | exact LeS.le | exact LeS.add _ | (simp; done) | (simp; omega)) _) | (with_reducible refine Ext.setCell ?_ (by first | exact LeS.le | exact LeS.add _ | (simp; done) | (simp; omega)) _))))).mono ?_; rintro e w' ⟨rfl, z1, rfl⟩) | (go_at_call 43; refine (iActionsValid_any l _ _ (HL.out.up (by repeat (first | (with_reducible exact Ext.refl _) | (with_reducible refine Ext.up ?_ _) | (with_reducible refine Ext.alloc ?_ _) | (with_reducible refine Ext.drew ?_) | (with_reducible refine Ext.setRow ?_ (by first | exact LeS.le | exact LeS.add _ | (simp; done) | (simp; omega)) _) | (with_reducible refine Ext.setCell ?_ (by first | exact LeS.le | exact LeS.add _ | (simp; done) | (simp; omega)) _))))).mono ?_; rintro e w' ⟨rfl, z2, rfl⟩))
    refine bodyPost_ret (v := .tuple #[.slice none 0 0, .slice none 0 0]) (by simp [results, Try.results13, go_sem]) rfl ?_
    exact ⟨_, _, rfl, (.of (by repeat (first | (with_reducible exact Ext.refl _) | (with_reducible refine Ext.up ?_ _) | (with_reducible refine Ext.alloc ?_ _) | (with_reducible refine Ext.drew ?_) | (with_reducible refine Ext.setRow ?_ (by first | exact LeS.le | exact LeS.add _ | (simp; done) | (simp; omega)) _) | (with_reducible refine Ext.setCell ?_ (by first | exact LeS.le | exact LeS.add _ | (simp; done) | (simp; omega)) _)))), SL.nil _ _ _ _ _, SE.nil _ _ _⟩
end Go.Proofs.Yteiemjebdhmnaaa
namespace Go.Proofs.Yteiemjebdhmnaaa
open Go Go.RowKit Go.Proofs

theorem climb_fuel {t : Tree} (h : t.ok = true) : ∀ (f f' n : Nat), n < f → n < f' → n < t.bs.length → climb t.pr f n = climb t.pr f' n
  | 0, _, n, hf, _, _ => by omega
  | _ + 1, 0, n, _, hf, _ => by omega
  | f + 1, f' + 1, n, h1, h2, hn => by
    obtain ⟨x, hx⟩ := getElem?_some_of_lt hn
    by_cases h0 : 0 < n
    · obtain ⟨m, y, hm, hlt, hy, _⟩ := Tree.link h hx h0
      rw [climb_step (by omega) (show t.pr[(n : Int).toNat]? = some (m : Int) from hm), climb_step (by omega) (show t.pr[(n : Int).toNat]? = some (m : Int) from hm), climb_fuel h f f' m (by omega) (by omega) (by omega)]
    · obtain rfl : n = 0 := by omega
      rw [climb_step (by omega) (show t.pr[((0 : Nat) : Int).toNat]? = some (-1) from Tree.pr_zero h), climb_step (by omega) (show t.pr[((0 : Nat) : Int).toNat]? = some (-1) from Tree.pr_zero h), climb_neg _ _ (by omega), climb_neg _ _ (by omega)]
theorem pathR_step {t : Tree} (h : t.ok = true) {n m : Nat} (hn : n < t.bs.length) (hm : t.pr[n]? = some (m : Int)) (hmn : m < n) : pathR t n = pathR t m ++ [(n : Int)] := by
  rw [pathR_yes h (hasN_iff.2 ⟨by omega, by omega⟩), pathR_yes h (hasN_iff.2 ⟨by omega, by omega⟩)]
  unfold pathB
  obtain ⟨f, hf⟩ : ∃ f, t.bs.length = f + 1 := ⟨t.bs.length - 1, by omega⟩
  rw [climb_fuel h t.bs.length f m (by omega) (by omega) (by omega), hf, climb_step (by omega) (show t.pr[(n : Int).toNat]? = some (m : Int) from hm), List.reverse_cons]
theorem pathR_zero {t : Tree} (h : t.ok = true) : pathR t 0 = [0] := by
  have hl := Tree.lens h
  rw [pathR_yes h (hasN_iff.2 ⟨by omega, by omega⟩)]
  unfold pathB
  obtain ⟨f, hf⟩ : ∃ f, t.bs.length = f + 1 := ⟨t.bs.length - 1, by omega⟩
  rw [hf, climb_step (by omega) (show t.pr[(0 : Int).toNat]? = some (-1) from Tree.pr_zero h), climb_neg _ _ (by omega)]; rfl
theorem first_none {t : Tree} (h : t.ok = true) {x : BL} (hx : t.bs[0]? = some x) : x.2 = [] ∧ x.1 = firstB t.base := by
  have := (Tree.ok_parts h).2.1
  simp only [Tree.first, hx, sameF, Bool.and_eq_true, beq_iff_eq] at this
  obtain ⟨a, b, c, d, e, f⟩ := this
  refine ⟨List.eq_nil_of_length_eq_zero (by omega), ?_⟩
  obtain ⟨⟨_, _, _, _, _⟩, l⟩ := x
  generalize firstB t.base = F at *
  obtain ⟨_, _, _, _, _⟩ := F
  simp_all
theorem storeR_zero {t : Tree} (h : t.ok = true) : storeR t 0 = t.base := by
  have hl := Tree.lens h
  obtain ⟨x, hx⟩ := getElem?_some_of_lt (l := t.bs) (k := 0) (by omega)
  rw [storeR_yes h (hasN_iff.2 ⟨by omega, by omega⟩)]
  unfold aftV
  rw [pathR_zero h]
  have e : actsOf t 0 = [] := by have := actsOf_eq (t := t) (m := 0) hx; rw [(first_none h hx).1] at this; exact this
  show storeOf (runAll (valsOf t.base) (actsOf t 0)).1 = _
  rw [e]
  exact storeOf_valsOf (base_ok h)
theorem aftV_step {t : Tree} (h : t.ok = true) {n m : Nat} (hn : n < t.bs.length) (hm : t.pr[n]? = some (m : Int)) (hmn : m < n) : aftV t n = (runAll (aftV t m) (actsOf t n)).1 := by
  unfold aftV aftL
  rw [pathR_step h hn hm hmn, List.foldl_append]; rfl
/-- The store behind a block is that of a serial run over the store behind the one before. -/
theorem storeR_next {t : Tree} (h : t.ok = true) {n m : Nat} {y : BL} (hy : t.bs[n]? = some y) (hm : t.pr[n]? = some (m : Int)) (hmn : m < n) : storeR t n = srS (storeR t m) y.2 := by
  have hn := (List.getElem?_eq_some_iff.1 hy).1
  rw [storeR_yes h (hasN_iff.2 ⟨by omega, by omega⟩), storeR_yes h (hasN_iff.2 ⟨by omega, by omega⟩), aftV_step h hn hm hmn, actsOf_eq hy]
  have hV := aftL_in h (pathR t m)
  rw [(sr_yes (by unfold srOk; rw [show aftV t (m : Int) = aftL t (pathR t m) from rfl, storeOf_ok hV, acts_ok h hy]; rfl)).1]
  rw [show aftV t (m : Int) = aftL t (pathR t m) from rfl, valsOf_storeOf hV]
theorem storeR_ok {t : Tree} (h : t.ok = true) {n : Int} (hn : hasN t n = true) : entsOk 1 (storeR t n) = true := by
  rw [storeR_yes h hn]; exact storeOf_ok (aftL_in h _)
theorem rightsTo_get (t : Tree) : ∀ (k i : Nat), i < k → (rightsTo t k)[i]? = some (rightAt t (rightsTo t i) i)
  | 0, i, h => by omega
  | k + 1, i, h => by
    rw [rightsTo]
    by_cases hi : i < k
    · rw [List.getElem?_append_left (by rw [rightsTo_len]; exact hi)]; exact rightsTo_get t k i hi
    · obtain rfl : i = k := by omega
      rw [List.getElem?_append_right (by rw [rightsTo_len]; exact Nat.le_refl _), rightsTo_len, Nat.sub_self]; rfl
theorem rightsR_yes {t : Tree} (h : t.ok = true) : rightsR t = rightsTo t t.bs.length := by unfold rightsR; rw [if_pos h]
theorem storeR_front {t : Tree} (h : t.ok = true) {n : Nat} {y : BL} (hy : t.bs[n]? = some y) : storeR t n = srS (frontS t n) y.2 := by
  have hn := (List.getElem?_eq_some_iff.1 hy).1
  by_cases h0 : n = 0
  · subst h0
    have e := (first_none h hy).1
    have hb := base_ok h
    rw [show storeR t ((0 : Nat) : Int) = t.base from storeR_zero h, show frontS t 0 = t.base from rfl, e, (sr_yes (by unfold srOk; rw [hb]; rfl)).1]
    exact (storeOf_valsOf hb).symm
  · obtain ⟨m, hm, hpa, hmn, hN⟩ := link_at h h0 hn
    rw [storeR_next h hy hm hmn]
    unfold frontS
    rw [if_neg h0, hpa]
theorem front_ok {t : Tree} (h : t.ok = true) {n : Nat} (hn : n < t.bs.length) : entsOk 1 (frontS t n) = true := by
  by_cases h0 : n = 0
  · subst h0; exact base_ok h
  · obtain ⟨m, hm, hpa, hmn, hN⟩ := link_at h h0 hn
    unfold frontS
    rw [if_neg h0, hpa]
    exact storeR_ok h hN
/-- What a right block says. -/
theorem right_one {t : Tree} (h : t.ok = true) {n : Nat} {y : BL} (hy : t.bs[n]? = some y) : (rightsR t)[n]? = some (blkRight y.1 y.2 (frontS t n) && (decide (n = 0) || (rightsR t).getD (prAt t n).toNat false)) := by
  have hn := (List.getElem?_eq_some_iff.1 hy).1
  rw [rightsR_yes h, rightsTo_get t _ n hn, rightAt_eq hy]
  by_cases h0 : n = 0
  · subst h0; rfl
  · obtain ⟨m, hm, hpa, hmn, hN⟩ := link_at h h0 hn
    rw [hpa, Int.toNat_natCast, List.getD_eq_getElem?_getD, List.getD_eq_getElem?_getD, rightsTo_get t _ m hmn, rightsTo_get t _ m (by omega)]
theorem right_root {t : Tree} (h : t.ok = true) {n : Nat} {y : BL} (hy : t.bs[n]? = some y) (hr : blkRight y.1 y.2 (frontS t n) = true) : rootOf (storeR t n) = y.1.rt := by
  have hn := (List.getElem?_eq_some_iff.1 hy).1
  have hf := front_ok h hn
  rw [storeR_front h hy, (sr_yes (by unfold srOk; rw [hf, acts_ok h hy]; rfl)).1]
  unfold blkRight at hr
  simp only [Bool.and_eq_true, decide_eq_true_eq] at hr
  exact hr.2.2.1.symm
theorem right_zero {t : Tree} (h : t.ok = true) : (rightsR t)[0]? = some true := by
  have hl := Tree.lens h
  obtain ⟨x, hx⟩ := getElem?_some_of_lt (l := t.bs) (k := 0) (by omega)
  obtain ⟨e1, e2⟩ := first_none h hx
  have hok := newAt_ok hx (upTo_iff.1 (Tree.ok_parts h).2.2.1 0 (by omega))
  have hb := base_ok h
  rw [right_one h hx, blkRight_yes hok (show entsOk 1 (frontS t 0) = true from hb), show frontS t 0 = t.base from rfl, e1, e2, firstB_yes hb]
  have e3 : storeOf (runAll (valsOf t.base) []).1 = t.base := storeOf_valsOf hb
  have e4 : (runAll (valsOf t.base) []).2 = [] := rfl
  rw [e3, e4]
  have e5 : effsSum [] = 21 := by first | rfl | decide | simp [effsSum]
  rw [e5]; simp
end Go.Proofs.Yteiemjebdhmnaaa
namespace Go.Proofs.Yteiemjebdhmnaaa
open Go Go.RowKit Go.Proofs

/-- What stands at the head of the loop. -/
structure CpyF (lo : Nat) (W0 W1 : World) (t : Tree) (G : Nat) (q3 : Option Addr) (d3 : Nat) (q4 : Option Addr) (d4 : Nat) : Prop where
  E0 : Ext W0 W1
  rowx : W1.heap[G]? = some (.cells #[.slice q3 t.base.length d3, .slice none 0 0, .slice q4 t.pr.length d4] 27 (0, 0))
  hGw : lo ≤ G
  O3 : Own Ent.enc 61 2 lo W1 (.slice q3 t.base.length d3) t.base
  O4 : Own encI 3 1 lo W1 (.slice q4 t.pr.length d4) t.pr
  AP : Apart (.slice q3 t.base.length d3) (.slice q4 t.pr.length d4) ∧ (Value.slice q3 t.base.length d3).ownBlock ≠ some G ∧ (Value.slice q4 t.pr.length d4).ownBlock ≠ some G
def CpyR (lo : Nat) (W0 : World) (t : Tree) (s : Value) (W1 : World) : Prop := ∃ (G : Nat) (q3 : Option Addr) (d3 : Nat) (q4 : Option Addr) (d4 : Nat), s = .pointer (some ⟨G, 0, none⟩) ∧ CpyF lo W0 W1 t G q3 d3 q4 d4
theorem CpyR.named {lo : Nat} {W0 : World} {t : Tree} {s : Value} {W : World} (h : ∀ W1, W1 = W → CpyR lo W0 t s W1) : CpyR lo W0 t s W := h W rfl
set_option maxRecDepth 100000 in
set_option maxHeartbeats 40000000 in
theorem sCopy_any (t : Tree) (v0 v1 v2 : Value) (w : World) (h : ST w v0 v1 v2 t) (hn : t.base.length ≤ 1000) (hb : t.bs.length ≤ 1000) (ha : ∀ x ∈ t.bs, x.2.length ≤ 1000) (hp : t.pr.length ≤ 1000) :
    Calls Try.prog 108 #[.agg #[v0, v1, v2]] w fun e w' => ∃ u0 u1 u2 bs, e = .returned (.agg #[u0, u1, u2]) ∧ Up w w' ∧ bs.map TB.core = t.bs ∧ OTA 61 39 85 3 w.heap.size w' u0 u1 u2 t.base bs t.pr := by
  have H0 := Lib.hid h.base; have H2 := Lib.hid h.pr
  obtain ⟨p0, c0, rfl, _, _⟩ := h.base.openc
  obtain ⟨p1, c1, rfl, hl1, _, hc1⟩ := h.bs.open
  obtain ⟨p2, c2, rfl, hlp, _⟩ := h.pr.openc
  have Ha := Lib.hid ha
  clear h ha
  go_enter Try.func108, Try.ntmps108
  go_upto_region 1 with fail
  go_cut [3] (fun s3 wr => CpyR (w.heap.size + 1 + 1) ((w.alloc (.cells #[.slice p0 t.base.length c0, .slice p1 t.bs.length c1, .slice p2 t.pr.length c2] 27)).alloc (.cells #[.slice none 0 0, .slice none 0 0, .slice none 0 0] 27)) t s3 wr)
  case first =>
    (go_region_held3 (fun w' => (∀ n i, ∀ [LtS n (w.alloc (.cells #[.slice p0 t.base.length c0, .slice p1 t.bs.length c1, .slice p2 t.pr.length c2] 27))], w'.cell? ⟨n, i, none⟩ = World.cell? (w.alloc (.cells #[.slice p0 t.base.length c0, .slice p1 t.bs.length c1, .slice p2 t.pr.length c2] 27)) ⟨n, i, none⟩) ∧ Ext (w.alloc (.cells #[.slice p0 t.base.length c0, .slice p1 t.bs.length c1, .slice p2 t.pr.length c2] 27)) w') ((refine S_of_ext ?_; (repeat (first | (with_reducible exact Ext.refl _) | (with_reducible refine Ext.up ?_ _) | (with_reducible refine Ext.alloc ?_ _) | (with_reducible refine Ext.drew ?_) | (with_reducible refine Ext.setRow ?_ (by first | exact LeS.le | exact LeS.add _ | (simp; done) | (simp; omega)) _) | (with_reducible refine Ext.setCell ?_ (by first | exact LeS.le | exact LeS.add _ | (simp; done) | (simp; omega)) _))); done)) (first | (refine step_clone fEnt Ent.enc Ent.enc_length (lo := w.heap.size + 1 + 1) t.base (by rfl) (.tmp 6) (.tmp 8) (by rfl) (by rfl) (by rfl) (by repeat (first | (with_reducible exact heap_alloc_new _ _) | (exact heap_alloc_at (by simp; done)) | (with_reducible refine (Extd.row _ _).trans ?_) | (with_reducible refine (heap_alloc_old _ _ LtS.lt).trans ?_) | (with_reducible refine (drew_row _ _).trans ?_) | (with_reducible refine (heap_alloc_old _ _ (by simp; omega)).trans ?_) | (with_reducible refine (Extd.row_lt _ (by simp; omega)).trans ?_))) (by first | exact LeS.le | omega | (simp; omega)) (H0.out.up (by repeat (first | (with_reducible exact Ext.refl _) | (with_reducible refine Ext.up ?_ _) | (with_reducible refine Ext.alloc ?_ _) | (with_reducible refine Ext.drew ?_) | (with_reducible refine Ext.setRow ?_ (by first | exact LeS.le | exact LeS.add _ | (simp; done) | (simp; omega)) _) | (with_reducible refine Ext.setCell ?_ (by first | exact LeS.le | exact LeS.add _ | (simp; done) | (simp; omega)) _)))) (oneEs' _) (by omega) (by omega) ?_; intro v3 z3 o3 b3; obtain ⟨q3, d3, hv3, _, _⟩ := (o3.sl Ent.enc_length).openc; subst hv3) | (refine step_clone fI encI encI_length (lo := w.heap.size + 1 + 1) t.pr (by rfl) (.tmp 10) (.tmp 12) (by rfl) (by rfl) (by rfl) (by repeat (first | (with_reducible exact heap_alloc_new _ _) | (exact heap_alloc_at (by simp; done)) | (with_reducible refine (Extd.row _ _).trans ?_) | (with_reducible refine (heap_alloc_old _ _ LtS.lt).trans ?_) | (with_reducible refine (drew_row _ _).trans ?_) | (with_reducible refine (heap_alloc_old _ _ (by simp; omega)).trans ?_) | (with_reducible refine (Extd.row_lt _ (by simp; omega)).trans ?_))) (by first | exact LeS.le | omega | (have := z3.ext.size; simp at this; omega) | (simp; omega)) (H2.out.up (by repeat (first | (with_reducible exact Ext.refl _) | (with_reducible refine Ext.up ?_ _) | (with_reducible refine Ext.alloc ?_ _) | (with_reducible refine Ext.drew ?_) | (with_reducible refine Ext.setRow ?_ (by first | exact LeS.le | exact LeS.add _ | (simp; done) | (simp; omega)) _) | (with_reducible refine Ext.setCell ?_ (by first | exact LeS.le | exact LeS.add _ | (simp; done) | (simp; omega)) _)))) (oneIs _) (by omega) (by omega) ?_; intro v4 z4 o4 b4; obtain ⟨q4, d4, hv4, _, _⟩ := (o4.sl encI_length).openc; subst hv4) | fail))
    all_goals
      go_wp2_with fail
      go_meet
      have h3 := z3.ext.size
      have h4 := z4.ext.size
      simp at h3 h4 b3 b4
      have L3 := fun n e => (World.ownsRow.lt o3 n e).2
      have L4 := fun n e => (World.ownsRow.lt o4 n e).2
      refine CpyR.named ?_
      intro W1 hW1
      refine ⟨_, q3, d3, q4, d4, rfl, ?_⟩
      refine ⟨?_, ?_, ?_, ?_, ?_, ?_⟩
      · rw [hW1]; exact (by repeat (first | (with_reducible exact Ext.refl _) | (with_reducible refine Ext.up ?_ _) | (with_reducible refine Ext.alloc ?_ _) | (with_reducible refine Ext.drew ?_) | (with_reducible refine Ext.setRow ?_ (by first | exact LeS.le | exact LeS.add _ | (simp; done) | (simp; omega)) _) | (with_reducible refine Ext.setCell ?_ (by first | exact LeS.le | exact LeS.add _ | (simp; done) | (simp; omega)) _)))
      · rw [hW1]; first | exact heap_alloc_new _ _ | exact ((heap_setCell_same _ _ 2 _ _ _ ((heap_setCell_same _ _ 1 _ _ _ ((heap_setCell_same _ _ 0 _ _ _ (show _ = some (Obj.cells #[.slice none 0 0, .slice none 0 0, .slice none 0 0] 27 (0, 0)) from (by repeat (first | (with_reducible exact heap_alloc_new _ _) | (exact heap_alloc_at (by simp; done)) | (with_reducible refine (Extd.row _ _).trans ?_) | (with_reducible refine (heap_alloc_old _ _ LtS.lt).trans ?_) | (with_reducible refine (drew_row _ _).trans ?_) | (with_reducible refine (heap_alloc_old _ _ (by simp; omega)).trans ?_) | (with_reducible refine (Extd.row_lt _ (by simp; omega)).trans ?_))))).trans rfl)).trans rfl)).trans rfl)
      · (try simp) <;> omega
      · rw [hW1]; repeat (first | (with_reducible exact o3) | (refine Own.setApart ?_ _ _ (.inr (by rcases b3 with e3 | e3 <;> (have l3 := L3 _ e3; rw [e3]; simp <;> omega)))) | (with_reducible refine Own.up ?_ (Extd.ext _)) | (with_reducible refine Own.alloc ?_))
      · rw [hW1]; repeat (first | (with_reducible exact o4) | (refine Own.setApart ?_ _ _ (.inr (by rcases b4 with e4 | e4 <;> (have l4 := L4 _ e4; rw [e4]; simp <;> omega)))) | (with_reducible refine Own.up ?_ (Extd.ext _)) | (with_reducible refine Own.alloc ?_))
      · unfold Apart
        rcases b3 with e3 | e3 <;> rcases b4 with e4 | e4 <;> (have l3 := L3 _ e3; have l4 := L4 _ e4; rw [e3, e4]; simp <;> omega)
  case rest =>
    obtain ⟨G, q3, d3, q4, d4, rfl, F⟩ := hcut
    obtain ⟨E0, rowx, hGw, o3, o4, AP, N3, N4⟩ := F
    obtain ⟨zW, rfl⟩ := Up.of E0
    have E1 : Ext w zW.val := (by repeat (first | (with_reducible exact Ext.refl _) | (with_reducible refine Ext.up ?_ _) | (with_reducible refine Ext.alloc ?_ _) | (with_reducible refine Ext.drew ?_) | (with_reducible refine Ext.setRow ?_ (by first | exact LeS.le | exact LeS.add _ | (simp; done) | (simp; omega)) _) | (with_reducible refine Ext.setCell ?_ (by first | exact LeS.le | exact LeS.add _ | (simp; done) | (simp; omega)) _)))
    have hGw0 := hGw
    have L3 := fun n e => (World.ownsRow.lt o3 n e).1
    have L4 := fun n e => (World.ownsRow.lt o4 n e).1
    have M3 : (Value.slice q3 t.base.length d3).ownBlock ≠ some (w.heap.size + 1) := fun e => by have := L3 _ e; omega
    have M4 : (Value.slice q4 t.pr.length d4).ownBlock ≠ some (w.heap.size + 1) := fun e => by have := L4 _ e; omega
    have O3 := Lib.hid (o3.lo (lo' := w.heap.size) (by omega)); have O4 := Lib.hid (o4.lo (lo' := w.heap.size) (by omega)); have AP' := Lib.hid AP
    have cB : zW.val.cell? ⟨w.heap.size, 1, none⟩ = some (.slice p1 t.bs.length c1) := by go_simp
    have cR0 : zW.val.cell? ⟨w.heap.size + 1, 0, none⟩ = some (.slice none 0 0) := by go_simp
    have cR1 : zW.val.cell? ⟨w.heap.size + 1, 1, none⟩ = some (.slice none 0 0) := by go_simp
    have cR2 : zW.val.cell? ⟨w.heap.size + 1, 2, none⟩ = some (.slice none 0 0) := by go_simp
    have fR0 : zW.val.frozen? ⟨w.heap.size + 1, 0, none⟩ = false := by go_simp
    have fR1 : zW.val.frozen? ⟨w.heap.size + 1, 1, none⟩ = false := by go_simp
    have fR2 : zW.val.frozen? ⟨w.heap.size + 1, 2, none⟩ = false := by go_simp
    clear o3 o4 AP L3 L4 hGw0
    have hGl : G < zW.val.heap.size := (Array.getElem?_eq_some_iff.1 rowx).1
    have hLG : LtS G zW.val := ⟨hGl⟩
    have hLw : LtS w.heap.size zW.val := ⟨by omega⟩
    have hLw1 : LtS (w.heap.size + 1) zW.val := ⟨by omega⟩
    have hNw : NeS w.heap.size G := ⟨by omega⟩
    have hNw1 : NeS (w.heap.size + 1) G := ⟨by omega⟩
    go_wp2_with fail
    go_loopw [4] (fun s4 wr => ∃ (k : Nat) (u1 : Value) (bs : List TB), s4 = .int .i64 k ∧ k ≤ t.bs.length ∧ (∃ z : ExtR G zW.val, wr = z.val) ∧ wr.heap[G]? = some (.cells #[.slice q3 t.base.length d3, u1, .slice q4 t.pr.length d4] 27 (0, 0)) ∧ OB 39 85 zW.val.heap.size wr u1 bs ∧ bs.map TB.core = t.bs.take k) (fun s4 _ => t.bs.length - (intOf s4).toNat)
    case atStart => exact ⟨0, _, [], rfl, Nat.zero_le _, ⟨⟨zW.val, grownBy_refl _ _⟩, rfl⟩, rowx, ⟨Own.nil _ _ _ _ _, by simp, List.Pairwise.nil⟩, rfl⟩
    case round =>
      obtain ⟨k, u1, bs, rfl, hk, ⟨z, rfl⟩, hrow, hob, hmap⟩ := hrel
      have hbl : bs.length = k := by rw [← List.length_map (f := TB.core), hmap, List.length_take]; omega
      have hbl2 : bs.length ≤ 1000 := by omega
      have Hbl := Lib.hid hbl; clear hbl
      obtain ⟨qx, dx, rfl, _, _⟩ := (hob.1.sl TB.enc_length).openc
      have HR := Lib.hid hrow; have HO := Lib.hid hob; have Hm := Lib.hid hmap
      have hEz : Ext w z.val := E1.upR (by omega) z
      have g0 : z.val.cell? ⟨G, 0, none⟩ = some (.slice q3 t.base.length d3) := cell_of_row _ _ 0 _ _ _ hrow
      have g1 : z.val.cell? ⟨G, 1, none⟩ = some (.slice qx bs.length dx) := cell_of_row _ _ 1 _ _ _ hrow
      have g2 : z.val.cell? ⟨G, 2, none⟩ = some (.slice q4 t.pr.length d4) := cell_of_row _ _ 2 _ _ _ hrow
      have f1 : z.val.frozen? ⟨G, 1, none⟩ = false := frozen_of_row _ _ 1 _ _ hrow
      have dB : z.val.cell? ⟨w.heap.size, 1, none⟩ = some (.slice p1 t.bs.length c1) := (z.cell _ _).trans cB
      have hLz : LtS G z.val := inferInstance
      have hLzw : LtS w.heap.size z.val := inferInstance
      have hzs := z.grown.size
      clear hrow hob hmap
      by_cases hlt : k < t.bs.length
      · obtain ⟨y, hyk⟩ := getElem?_some_of_lt hlt
        obtain ⟨b, off, p, c, rfl, hb', e0, e1, e2, e3, e4, e5, hx⟩ := hc1 k y hyk
        have hNb : NeS b G := ⟨by have := hb'.lt; omega⟩
        have hLb : LtS b zW.val := ⟨by have := hb'.lt; omega⟩
        have a0 : z.val.cell? ⟨b, off + k * 6, none⟩ = some (.int .i64 y.1.bf) := (z.cell _ _).trans (E1.some e0)
        have a1 : z.val.cell? ⟨b, off + k * 6 + 1, none⟩ = some (.int .i64 y.1.ht) := (z.cell _ _).trans (E1.some e1)
        have a2 : z.val.cell? ⟨b, off + k * 6 + 2, none⟩ = some (.int .i64 y.1.vw) := (z.cell _ _).trans (E1.some e2)
        have a3 : z.val.cell? ⟨b, off + k * 6 + 3, none⟩ = some (.slice p y.2.length c) := (z.cell _ _).trans (E1.some e3)
        have a4 : z.val.cell? ⟨b, off + k * 6 + 4, none⟩ = some (.int .i64 y.1.rt) := (z.cell _ _).trans (E1.some e4)
        have a5 : z.val.cell? ⟨b, off + k * 6 + 5, none⟩ = some (.int .i64 y.1.ef) := (z.cell _ _).trans (E1.some e5)
        have hLbz : LtS b z.val := inferInstance
        have HX := Lib.hid (hx.up hEz)
        have hyl := Ha.out y (List.mem_of_getElem? hyk)
        have Hyk := Lib.hid hyk
        have k0 : (0 : Int) ≤ (k : Int) := by omega
        have k1 : (k : Int) < t.bs.length := by omega
        clear hc1 hx hyk e0 e1 e2 e3 e4 e5
        go_wp2_with (first | (at_builtin; refine wpList_clone fActn Actn.enc Actn.enc_length (lo := z.val.heap.size) y.2 rfl (.tmp 27) (.tmp 29) rfl rfl rfl (heap_alloc_at (by simp)) (by first | exact LeS.le | omega | (simp; omega)) (HX.out.up (by repeat (first | (with_reducible exact Ext.refl _) | (with_reducible refine Ext.up ?_ _) | (with_reducible refine Ext.alloc ?_ _) | (with_reducible refine Ext.drew ?_) | (with_reducible refine Ext.setRow ?_ (by first | exact LeS.le | exact LeS.add _ | (simp; done) | (simp; omega)) _) | (with_reducible refine Ext.setCell ?_ (by first | exact LeS.le | exact LeS.add _ | (simp; done) | (simp; omega)) _)))) (oneAs _) (by omega) (by omega) ?_; intro v8 z8 o8 b8; obtain ⟨p8, c8, hv8, _, _⟩ := (o8.sl Actn.enc_length).openc; subst hv8; have O8 := Lib.hid o8; have RE8 : z8.val.heap[G]? = z.val.heap[G]? := (by repeat (first | (with_reducible rfl) | (with_reducible refine (Extd.row _ _).trans ?_) | (with_reducible refine (heap_alloc_old _ _ LtS.lt).trans ?_) | (with_reducible refine (Below.heap_setCell _ _ _ _ (by omega)).trans ?_))); have hz8 := z8.ext.size; simp at hz8; have hN8 : (Value.slice p8 y.2.length c8).ownBlock = none ∨ (Value.slice p8 y.2.length c8).ownBlock ≠ some z.val.heap.size := (by right; rcases b8 with e8 | e8 <;> rw [e8] <;> simp <;> omega); clear o8 b8) | (at_builtin; refine wpList_pushG fBlk rfl (.tmp 33) (.tmp 35) rfl TB.enc TB.enc_length w (lo := zW.val.heap.size) [⟨y.1, .slice p8 y.2.length c8, y.2⟩] bs rfl (HO.out.1.up (by repeat (first | (with_reducible exact Ext.refl _) | (with_reducible refine Ext.up ?_ _) | (with_reducible refine Ext.alloc ?_ _) | (with_reducible refine Ext.drew ?_) | (with_reducible refine Ext.setRow ?_ (by first | exact LeS.le | exact LeS.add _ | (simp; done) | (simp; omega)) _) | (with_reducible refine Ext.setCell ?_ (by first | exact LeS.le | exact LeS.add _ | (simp; done) | (simp; omega)) _)))) (hEz.trans (by repeat (first | (with_reducible exact Ext.refl _) | (with_reducible refine Ext.up ?_ _) | (with_reducible refine Ext.alloc ?_ _) | (with_reducible refine Ext.drew ?_) | (with_reducible refine Ext.setRow ?_ (by first | exact LeS.le | exact LeS.add _ | (simp; done) | (simp; omega)) _) | (with_reducible refine Ext.setCell ?_ (by first | exact LeS.le | exact LeS.add _ | (simp; done) | (simp; omega)) _)))) (by omega) (by first | omega | (simp [setCell_sz]; omega)) rfl rfl (by go_simp) rfl (by simp [TB.enc, Value.oneCell']) (by simp; omega) (by simp; omega) ?_; intro v7 z7 o7 g7 b7; obtain ⟨p7, c7, hv7, _, _⟩ := (o7.sl TB.enc_length).openc; rw [List.length_append] at hv7; rw [show ([(⟨y.1, .slice p8 y.2.length c8, y.2⟩ : TB)]).length = 1 from rfl] at hv7; subst hv7; obtain ⟨R7, G7⟩ := keepRow0 (w := zW.val) (by repeat (first | (with_reducible exact z.grown) | (with_reducible refine GB.setNew ?_ (by first | omega | (simp; omega)) _ _) | (with_reducible refine GB.alloc ?_ _) | (with_reducible refine GB.up ?_ _))) (HO.out.1.up (by repeat (first | (with_reducible exact Ext.refl _) | (with_reducible refine Ext.up ?_ _) | (with_reducible refine Ext.alloc ?_ _) | (with_reducible refine Ext.drew ?_) | (with_reducible refine Ext.setRow ?_ (by first | exact LeS.le | exact LeS.add _ | (simp; done) | (simp; omega)) _) | (with_reducible refine Ext.setCell ?_ (by first | exact LeS.le | exact LeS.add _ | (simp; done) | (simp; omega)) _)))) hGl (Nat.le_refl _) ((Below.heap_setCell _ _ _ _ (Nat.ne_of_lt hLz.lt)).trans (RE8.trans HR.out)) g7; have e71 := cell_of_row _ _ 1 _ _ _ R7; have e7f := frozen_of_row _ _ 1 _ _ R7))
        have OB7 := Lib.hid (OB.snoc (x := ⟨y.1, .slice p8 y.2.length c8, y.2⟩) (HO.out.up (by repeat (first | (with_reducible exact Ext.refl _) | (with_reducible refine Ext.up ?_ _) | (with_reducible refine Ext.alloc ?_ _) | (with_reducible refine Ext.drew ?_) | (with_reducible refine Ext.setRow ?_ (by first | exact LeS.le | exact LeS.add _ | (simp; done) | (simp; omega)) _) | (with_reducible refine Ext.setCell ?_ (by first | exact LeS.le | exact LeS.add _ | (simp; done) | (simp; omega)) _)))) g7 b7 o7 (((O8.out.setApart _ _ hN8).alloc).lo hzs) (Apart.of_lt HO.out.1 O8.out (Nat.le_refl _)).symm (fun q hq => Apart.of_lt (HO.out.2.1 q hq).1 O8.out (Nat.le_refl _)))
        have HR7 := Lib.hid R7; have HG7 := Lib.hid G7
        clear o7 g7 b7 R7 G7
        go_wp2_with fail
        go_roundw
        case rel =>
          refine ⟨k + 1, _, bs ++ [⟨y.1, .slice p8 y.2.length c8, y.2⟩], by go_num, by omega, ExtR.of (grownBy_trans HG7.out (grownBy_set _ _ _)), (heap_setCell_same _ _ 1 _ _ _ HR7.out).trans rfl, OB7.out.setOld _ _ hGl, ?_⟩
          rw [List.map_append, Hm.out, List.take_add_one, Hyk.out]; rfl
        case measure => simp [intOf]; omega
      · obtain rfl : k = t.bs.length := by omega
        clear hc1
        rw [List.take_length] at Hm
        have dR0 : z.val.cell? ⟨w.heap.size + 1, 0, none⟩ = some (.slice none 0 0) := (z.cell _ _).trans cR0
        have dR1 : z.val.cell? ⟨w.heap.size + 1, 1, none⟩ = some (.slice none 0 0) := (z.cell _ _).trans cR1
        have dR2 : z.val.cell? ⟨w.heap.size + 1, 2, none⟩ = some (.slice none 0 0) := (z.cell _ _).trans cR2
        have eR0 : z.val.frozen? ⟨w.heap.size + 1, 0, none⟩ = false := (z.frozen _ _).trans fR0
        have eR1 : z.val.frozen? ⟨w.heap.size + 1, 1, none⟩ = false := (z.frozen _ _).trans fR1
        have eR2 : z.val.frozen? ⟨w.heap.size + 1, 2, none⟩ = false := (z.frozen _ _).trans fR2
        have hLzw1 : LtS (w.heap.size + 1) z.val := inferInstance
        have K3 := Lib.hid (O3.out.kept z.grown (.inr N3))
        have K4 := Lib.hid (O4.out.kept z.grown (.inr N4))
        have hzw : w.heap.size + 1 < z.val.heap.size := hLzw1.lt
        have hLG0 : z.val.heap[G]? = some (.cells #[.slice q3 t.base.length d3, .slice qx bs.length dx, .slice q4 t.pr.length d4] 27 (0, 0)) := HR.out
        clear HR g0 g1 g2 f1 hLz hLzw hLzw1 N3 N4
        generalize z.val = W9 at *
        clear z
        obtain ⟨z9, rfl⟩ := Up.of hEz
        have hLz9 : LtS (w.heap.size + 1) z9.val := ⟨hzw⟩
        have hLz7 : LtS w.heap.size z9.val := ⟨by omega⟩
        have hLz8 : LtS G z9.val := ⟨(Array.getElem?_eq_some_iff.1 hLG0).1⟩
        have g0 : z9.val.cell? ⟨G, 0, none⟩ = some (.slice q3 t.base.length d3) := cell_of_row _ _ 0 _ _ _ hLG0
        have g1 : z9.val.cell? ⟨G, 1, none⟩ = some (.slice qx bs.length dx) := cell_of_row _ _ 1 _ _ _ hLG0
        have g2 : z9.val.cell? ⟨G, 2, none⟩ = some (.slice q4 t.pr.length d4) := cell_of_row _ _ 2 _ _ _ hLG0
        have HL0 := Lib.hid hLG0; clear hLG0
        go_wp2_with fail
        refine bodyPost_ret (v := .agg #[.slice q3 t.base.length d3, .slice qx bs.length dx, .slice q4 t.pr.length d4]) (by simp [results, Try.results108, go_sem, dR0, dR1, dR2]) rfl ?_
        refine ⟨_, _, _, bs, rfl, .of ?_, Hm.out, ?_⟩
        · repeat (first | (with_reducible exact hEz) | (exact z9.ext) | (with_reducible refine Ext.setCell ?_ (by first | exact Nat.le_succ _ | omega) _))
        · refine ⟨?_, ?_, ?_, Apart.of_lt O3.out HO.out.1 (Nat.le_refl _), Apart.of_lt O4.out HO.out.1 (Nat.le_refl _), AP'.out, fun q hq => (Apart.of_lt O3.out (HO.out.2.1 q hq).1 (Nat.le_refl _)).symm, fun q hq => (Apart.of_lt O4.out (HO.out.2.1 q hq).1 (Nat.le_refl _)).symm⟩
          · refine Own.setApart (Own.setApart (Own.setApart K3.out _ _ ?_) _ _ ?_) _ _ ?_ <;> exact .inr M3
          · exact (((HO.out.setOld _ _ (by show w.heap.size + 1 < _; omega)).setOld _ _ (by show w.heap.size + 1 < _; omega)).setOld _ _ (by show w.heap.size + 1 < _; omega)).lo (by omega)
          · refine Own.setApart (Own.setApart (Own.setApart K4.out _ _ ?_) _ _ ?_) _ _ ?_ <;> exact .inr M4
end Go.Proofs.Yteiemjebdhmnaaa
