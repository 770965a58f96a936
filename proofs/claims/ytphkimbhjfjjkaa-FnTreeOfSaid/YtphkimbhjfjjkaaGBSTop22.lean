/- Walks: trees that grow: the reference's side (a weak contract: the tree stays valid). The law FnExactFirstBlock's walk. Walks: new trees. Walks: drawn effects. -/
import Derived.Test.YtphkimbhjfjjkaaGBSTop17
import Derived.Test.YtphkimbhjfjjkaaGBSTop21
import Derived.Test.YtphkimbhjfjjkaaGBSTop12
import Derived.Test.YtphkimbhjfjjkaaGBSTop14
import Derived.Test.YtphkimbhjfjjkaaGBSTop08
import Derived.Laws.AppendOwnNone
import Derived.Test.YtphkimbhjfjjkaaGBSTop09
import Derived.Test.YtphkimbhjfjjkaaGBSTop20
set_option linter.unusedSimpArgs false
set_option linter.unusedVariables false
namespace Go.Proofs.Ytphkimbhjfjjkaa
open Go Go.RowKit Go.Proofs

set_option maxRecDepth 100000 in
set_option maxHeartbeats 8000000 in
theorem sGrowTree_weak (t : Tree) (v0 v1 v2 : Value) (n : Nat) (view : Int) (vl : Value) (l : List Actn) (w : World) (h : ST w v0 v1 v2 t) (hok : t.ok = true) (hn : n < t.bs.length) (hl : SL (RF Actn.enc) 4 w vl l) (hll : l.length ≤ 1000) :
    Calls Try.prog 109 #[.agg #[v0, v1, v2], .int .i64 n, .int .i64 view, vl] w fun e w' => ∃ (u0 u1 u2 : Value) (t' : Tree) (bs : List TB) (ok : Bool), e = .returned (.tuple #[.agg #[u0, u1, u2], .bool ok]) ∧ Up w w' ∧ t'.ok = true ∧ t.bs.length ≤ t'.bs.length ∧ bs.map TB.core = t'.bs ∧ OTA 75 27 71 3 w.heap.size w' u0 u1 u2 t'.base bs t'.pr := by
  have H := Lib.hid h; have HL := Lib.hid hl
  obtain ⟨p0, c0, rfl, _, _⟩ := h.base.openc
  obtain ⟨p1, c1, rfl, hl1, _, hc1⟩ := h.bs.open
  obtain ⟨p2, c2, rfl, _, _⟩ := h.pr.openc
  obtain ⟨pl, cl, rfl, _, _⟩ := hl.openc
  obtain ⟨k1, k2, k3, k4⟩ := Tree.bounds hok
  obtain ⟨y, hyn⟩ := getElem?_some_of_lt hn
  obtain ⟨b, off, p, c, rfl, hb', e0, e1, e2, e3, e4, e5, hx⟩ := hc1 n y hyn
  have kv := fun w h => sTreeValid_any t (.slice p0 t.base.length c0) (.slice (some ⟨b, off, none⟩) t.bs.length c1) (.slice p2 t.pr.length c2) w h
  simp only [hok] at kv
  have hin : inR (n : Int) 0 ((t.bs.length : Int) - 1) = true := inR_iff.2 (by omega)
  have ki := fun w => l1In_any (n : Int) 0 ((t.bs.length : Int) - 1) w
  simp only [hin] at ki
  have hnn : hasN t n = true := hin
  have kc := fun w h => sCopy_any t (.slice p0 t.base.length c0) (.slice (some ⟨b, off, none⟩) t.bs.length c1) (.slice p2 t.pr.length c2) w h (by omega) (by omega) (fun x hx => by have := k4 x hx; omega) (by omega)
  have ks := fun w h => sStoreOf_weak t (.slice p0 t.base.length c0) (.slice (some ⟨b, off, none⟩) t.bs.length c1) (.slice p2 t.pr.length c2) n w h hok hnn
  have kp := fun b' bl vb w h hb hbl => sPutBlock_weak t (.slice p0 t.base.length c0) (.slice (some ⟨b, off, none⟩) t.bs.length c1) (.slice p2 t.pr.length c2) b' bl vb w h hok hb hbl
  have hw1 : IntKind.i64.wrap ((t.bs.length : Int) - 1) = (t.bs.length : Int) - 1 := IntWalk.i64_in _ (by omega)
  have n0 : (0 : Int) ≤ (n : Int) := by omega
  have n1 : (n : Int) < t.bs.length := by omega
  have HX := Lib.hid hx; have Hok := Lib.hid hok
  clear h hl hc1 hx hok hyn hin hnn k4
  go_enter Try.func109, Try.ntmps109
  go_upto_region 5 with (first | (go_at_call 46; refine (kv _ (H.out.up (by repeat (first | (with_reducible exact Ext.refl _) | (with_reducible refine Ext.up ?_ _) | (with_reducible refine Ext.alloc ?_ _) | (with_reducible refine Ext.drew ?_) | (with_reducible refine Ext.setRow ?_ (by first | exact LeS.le | exact LeS.add _ | (simp; done) | (simp; omega)) _) | (with_reducible refine Ext.setCell ?_ (by first | exact LeS.le | exact LeS.add _ | (simp; done) | (simp; omega)) _))))).mono ?_; rintro e w' ⟨rfl, z1, rfl⟩) | (go_at_call 64; (with_reducible refine (ki _).mono ?_); rintro e w' ⟨rfl, rfl⟩))
  clear kv ki
  go_cut [10, 11] (fun s10 s11 wr => ∃ (Bx : Nat) (b' : Blk) (p4 : Option Addr) (c4 : Nat) (l' : List Actn) (ok : Bool), s10 = .pointer (some ⟨Bx, 0, none⟩) ∧ s11 = .bool ok ∧ LtS Bx wr ∧ Up ((w.alloc (.cells #[.slice p0 t.base.length c0, .slice (some ⟨b, off, none⟩) t.bs.length c1, .slice p2 t.pr.length c2] 42)).alloc (.cells #[.slice none 0 0, .slice none 0 0, .slice none 0 0] 42)) wr ∧ l'.length ≤ l.length ∧ SL (RF Actn.enc) 4 wr (.slice p4 l'.length c4) l' ∧ wr.cell? ⟨Bx, 0, none⟩ = some (.int .i64 b'.bf) ∧ wr.cell? ⟨Bx, 1, none⟩ = some (.int .i64 b'.ht) ∧ wr.cell? ⟨Bx, 2, none⟩ = some (.int .i64 b'.vw) ∧ wr.cell? ⟨Bx, 3, none⟩ = some (.slice p4 l'.length c4) ∧ wr.cell? ⟨Bx, 4, none⟩ = some (.int .i64 b'.rt) ∧ wr.cell? ⟨Bx, 5, none⟩ = some (.int .i64 b'.ef))
  case first =>
    (go_region_held3 (fun w' => (∀ n i, ∀ [LtS n ((w.alloc (.cells #[.slice p0 t.base.length c0, .slice (some ⟨b, off, none⟩) t.bs.length c1, .slice p2 t.pr.length c2] 42)).alloc (.cells #[.slice none 0 0, .slice none 0 0, .slice none 0 0] 42))], w'.cell? ⟨n, i, none⟩ = World.cell? ((w.alloc (.cells #[.slice p0 t.base.length c0, .slice (some ⟨b, off, none⟩) t.bs.length c1, .slice p2 t.pr.length c2] 42)).alloc (.cells #[.slice none 0 0, .slice none 0 0, .slice none 0 0] 42)) ⟨n, i, none⟩) ∧ Ext ((w.alloc (.cells #[.slice p0 t.base.length c0, .slice (some ⟨b, off, none⟩) t.bs.length c1, .slice p2 t.pr.length c2] 42)).alloc (.cells #[.slice none 0 0, .slice none 0 0, .slice none 0 0] 42)) w') ((refine S_of_ext ?_; (repeat (first | (with_reducible exact Ext.refl _) | (with_reducible refine Ext.up ?_ _) | (with_reducible refine Ext.alloc ?_ _) | (with_reducible refine Ext.drew ?_) | (with_reducible refine Ext.setRow ?_ (by first | exact LeS.le | exact LeS.add _ | (simp; done) | (simp; omega)) _) | (with_reducible refine Ext.setCell ?_ (by first | exact LeS.le | exact LeS.add _ | (simp; done) | (simp; omega)) _))); done)) (first | ((go_at_call 112; refine (ks _ (H.out.up (by repeat (first | (with_reducible exact Ext.refl _) | (with_reducible refine Ext.up ?_ _) | (with_reducible refine Ext.alloc ?_ _) | (with_reducible refine Ext.drew ?_) | (with_reducible refine Ext.setRow ?_ (by first | exact LeS.le | exact LeS.add _ | (simp; done) | (simp; omega)) _) | (with_reducible refine Ext.setCell ?_ (by first | exact LeS.le | exact LeS.add _ | (simp; done) | (simp; omega)) _))))).mono ?_; rintro e w' ⟨v3, s3, rfl, ⟨z3, rfl⟩, _, o3⟩); have S3 := Lib.hid (o3.sl Ent.enc_length); clear o3) | ((go_at_call 111; refine (sNextBlock_any y.1 y.2 (.slice p y.2.length c) v3 _ s3 l view _ (HX.out.up (by repeat (first | (with_reducible exact Ext.refl _) | (with_reducible refine Ext.up ?_ _) | (with_reducible refine Ext.alloc ?_ _) | (with_reducible refine Ext.drew ?_) | (with_reducible refine Ext.setRow ?_ (by first | exact LeS.le | exact LeS.add _ | (simp; done) | (simp; omega)) _) | (with_reducible refine Ext.setCell ?_ (by first | exact LeS.le | exact LeS.add _ | (simp; done) | (simp; omega)) _)))) (S3.out.up (by repeat (first | (with_reducible exact Ext.refl _) | (with_reducible refine Ext.up ?_ _) | (with_reducible refine Ext.alloc ?_ _) | (with_reducible refine Ext.drew ?_) | (with_reducible refine Ext.setRow ?_ (by first | exact LeS.le | exact LeS.add _ | (simp; done) | (simp; omega)) _) | (with_reducible refine Ext.setCell ?_ (by first | exact LeS.le | exact LeS.add _ | (simp; done) | (simp; omega)) _)))) (HL.out.up (by repeat (first | (with_reducible exact Ext.refl _) | (with_reducible refine Ext.up ?_ _) | (with_reducible refine Ext.alloc ?_ _) | (with_reducible refine Ext.drew ?_) | (with_reducible refine Ext.setRow ?_ (by first | exact LeS.le | exact LeS.add _ | (simp; done) | (simp; omega)) _) | (with_reducible refine Ext.setCell ?_ (by first | exact LeS.le | exact LeS.add _ | (simp; done) | (simp; omega)) _))))).mono ?_; rintro e w' ⟨b', v4, l', ok, rfl, ⟨z4, rfl⟩, hll', o4⟩); obtain ⟨p4, c4, hv4, _, _⟩ := (o4.sl Actn.enc_length).openc; subst hv4; have hN4 := Own.ne_out o4; have S4 := Lib.hid (o4.lo (Nat.zero_le _)); clear o4) | fail))
    all_goals go_wp2_with fail
    all_goals go_meet
    all_goals
      have h1 := z1.ext.size
      have h3 := z3.ext.size
      have h4 := z4.ext.size
      simp [setCell_sz] at h1 h3 h4
      have hn3 : NeS w.heap.size z3.val.heap.size := ⟨by omega⟩
      refine ⟨_, b', p4, c4, l', ok, rfl, rfl, by infer_instance, (.of (by repeat (first | (with_reducible exact Ext.refl _) | (with_reducible refine Ext.up ?_ _) | (with_reducible refine Ext.alloc ?_ _) | (with_reducible refine Ext.drew ?_) | (with_reducible refine Ext.setRow ?_ (by first | exact LeS.le | exact LeS.add _ | (simp; done) | (simp; omega)) _) | (with_reducible refine Ext.setCell ?_ (by first | exact LeS.le | exact LeS.add _ | (simp; done) | (simp; omega)) _)))), hll', (by refine Own.sl (lo := 0) (e := 71) Actn.enc_length ?_; (repeat (with_reducible refine Own.setApart ?_ _ _ (.inr (hN4 _ (.inl (by (try simp) <;> omega)))))); first | (with_reducible exact S4.out) | (with_reducible refine Own.alloc ?_; with_reducible exact S4.out)), by go_simp, by go_simp, by go_simp, by go_simp, by go_simp, by go_simp⟩
  case rest =>
    obtain ⟨Bx, b', p4, c4, l', ok, rfl, rfl, hLB, ⟨z9, rfl⟩, hll', hs4, x0, x1, x2, x3, x4, x5⟩ := hcut
    have S4 := Lib.hid hs4
    have h9 := z9.ext.size
    simp at h9
    clear ks hs4
    rcases ok with _ | _
    · go_wp2_with fail
      refine (kc _ (H.out.up (by repeat (first | (with_reducible exact Ext.refl _) | (with_reducible refine Ext.up ?_ _) | (with_reducible refine Ext.alloc ?_ _) | (with_reducible refine Ext.drew ?_) | (with_reducible refine Ext.setRow ?_ (by first | exact LeS.le | exact LeS.add _ | (simp; done) | (simp; omega)) _) | (with_reducible refine Ext.setCell ?_ (by first | exact LeS.le | exact LeS.add _ | (simp; done) | (simp; omega)) _))))).mono ?_; rintro e w' ⟨y0, y1, y2, bs', rfl, ⟨z11, rfl⟩, hm', ot'⟩
      obtain ⟨g0, h0, rfl, _, _⟩ := (ot'.obase.sl Ent.enc_length).openc
      obtain ⟨g1, h1, rfl, _, _⟩ := (ot'.obs.1.sl TB.enc_length).openc
      obtain ⟨g2, h2, rfl, _, _⟩ := (ot'.opr.sl encI_length).openc
      have OT' := Lib.hid ot'; have Hm' := Lib.hid hm'; clear ot' hm'
      go_wp2_with fail
      have r0 : z11.val.cell? ⟨w.heap.size + 1, 0, none⟩ = some (.slice none 0 0) := by go_simp
      have r1 : z11.val.cell? ⟨w.heap.size + 1, 1, none⟩ = some (.slice none 0 0) := by go_simp
      have r2 : z11.val.cell? ⟨w.heap.size + 1, 2, none⟩ = some (.slice none 0 0) := by go_simp
      refine bodyPost_ret (v := .tuple #[.agg #[.slice g0 t.base.length h0, .slice g1 bs'.length h1, .slice g2 t.pr.length h2], .bool false]) (by simp [results, Try.results109, go_sem, r0, r1, r2]) rfl ?_
      refine ⟨_, _, _, t, bs', false, rfl, (.of (by repeat (first | (with_reducible exact Ext.refl _) | (with_reducible refine Ext.up ?_ _) | (with_reducible refine Ext.alloc ?_ _) | (with_reducible refine Ext.drew ?_) | (with_reducible refine Ext.setRow ?_ (by first | exact LeS.le | exact LeS.add _ | (simp; done) | (simp; omega)) _) | (with_reducible refine Ext.setCell ?_ (by first | exact LeS.le | exact LeS.add _ | (simp; done) | (simp; omega)) _)))), Hok.out, Nat.le_refl _, Hm'.out, ?_⟩
      exact (((OT'.out.setOld _ _ (by show w.heap.size + 1 < _; (try simp [setCell_sz]) <;> omega)).setOld _ _ (by show w.heap.size + 1 < _; (try simp [setCell_sz]) <;> omega)).setOld _ _ (by show w.heap.size + 1 < _; (try simp [setCell_sz]) <;> omega)).lo (by (try simp [setCell_sz]) <;> omega)
    · go_wp2_with fail
      refine (kp b' l' (.slice p4 l'.length c4) _ (H.out.up (by repeat (first | (with_reducible exact Ext.refl _) | (with_reducible refine Ext.up ?_ _) | (with_reducible refine Ext.alloc ?_ _) | (with_reducible refine Ext.drew ?_) | (with_reducible refine Ext.setRow ?_ (by first | exact LeS.le | exact LeS.add _ | (simp; done) | (simp; omega)) _) | (with_reducible refine Ext.setCell ?_ (by first | exact LeS.le | exact LeS.add _ | (simp; done) | (simp; omega)) _)))) (S4.out.up (by repeat (first | (with_reducible exact Ext.refl _) | (with_reducible refine Ext.up ?_ _) | (with_reducible refine Ext.alloc ?_ _) | (with_reducible refine Ext.drew ?_) | (with_reducible refine Ext.setRow ?_ (by first | exact LeS.le | exact LeS.add _ | (simp; done) | (simp; omega)) _) | (with_reducible refine Ext.setCell ?_ (by first | exact LeS.le | exact LeS.add _ | (simp; done) | (simp; omega)) _)))) (by omega)).mono ?_; rintro e w' ⟨y0, y1, y2, t', bs', ok', rfl, ⟨z11, rfl⟩, htk, hlen, hm', ot'⟩
      obtain ⟨g0, h0, rfl, _, _⟩ := (ot'.obase.sl Ent.enc_length).openc
      obtain ⟨g1, h1, rfl, _, _⟩ := (ot'.obs.1.sl TB.enc_length).openc
      obtain ⟨g2, h2, rfl, _, _⟩ := (ot'.opr.sl encI_length).openc
      have OT' := Lib.hid ot'; have Hm' := Lib.hid hm'; have Htk := Lib.hid htk; clear ot' hm' htk
      go_wp2_with fail
      have r0 : z11.val.cell? ⟨w.heap.size + 1, 0, none⟩ = some (.slice none 0 0) := by go_simp
      have r1 : z11.val.cell? ⟨w.heap.size + 1, 1, none⟩ = some (.slice none 0 0) := by go_simp
      have r2 : z11.val.cell? ⟨w.heap.size + 1, 2, none⟩ = some (.slice none 0 0) := by go_simp
      refine bodyPost_ret (v := .tuple #[.agg #[.slice g0 t'.base.length h0, .slice g1 bs'.length h1, .slice g2 t'.pr.length h2], .bool ok']) (by simp [results, Try.results109, go_sem, r0, r1, r2]) rfl ?_
      refine ⟨_, _, _, t', bs', ok', rfl, (.of (by repeat (first | (with_reducible exact Ext.refl _) | (with_reducible refine Ext.up ?_ _) | (with_reducible refine Ext.alloc ?_ _) | (with_reducible refine Ext.drew ?_) | (with_reducible refine Ext.setRow ?_ (by first | exact LeS.le | exact LeS.add _ | (simp; done) | (simp; omega)) _) | (with_reducible refine Ext.setCell ?_ (by first | exact LeS.le | exact LeS.add _ | (simp; done) | (simp; omega)) _)))), Htk.out, hlen, Hm'.out, ?_⟩
      exact (((OT'.out.setOld _ _ (by show w.heap.size + 1 < _; (try simp [setCell_sz]) <;> omega)).setOld _ _ (by show w.heap.size + 1 < _; (try simp [setCell_sz]) <;> omega)).setOld _ _ (by show w.heap.size + 1 < _; (try simp [setCell_sz]) <;> omega)).lo (by (try simp [setCell_sz]) <;> omega)
end Go.Proofs.Ytphkimbhjfjjkaa
namespace Go.Proofs.Ytphkimbhjfjjkaa
open Go Go.RowKit Go.Proofs

theorem cell_blk {w w' : World} {b : Nat} (h : w'.heap[b]? = w.heap[b]?) (i : Nat) : w'.cell? ⟨b, i, none⟩ = w.cell? ⟨b, i, none⟩ := by
  simp only [World.cell?, h]
theorem sFB (s : List Ent) (v : Value) (w : World) (h : SL (RF Ent.enc) 2 w v s) : Calls Try.prog 18 #[v] w fun e w' => e = .returned (.agg #[.int .i64 (firstB s).bf, .int .i64 (firstB s).ht, .int .i64 (firstB s).vw, .slice none 0 0, .int .i64 (firstB s).rt, .int .i64 (firstB s).ef]) ∧ Up w w' := sFirstBlock_any s v w h
theorem iFB (s : List Ent) (v : Value) (w : World) (h : SL (RF Ent.enc) 2 w v s) : Calls Try.prog 16 #[v] w fun e w' => e = .returned (.agg #[.int .i64 (firstB s).bf, .int .i64 (firstB s).ht, .int .i64 (firstB s).vw, .slice none 0 0, .int .i64 (firstB s).rt, .int .i64 (firstB s).ef]) ∧ Up w w' := iFirstBlock_any s v w h
end Go.Proofs.Ytphkimbhjfjjkaa
namespace Go.Proofs.Ytphkimbhjfjjkaa
open Go Go.RowKit Go.Proofs

theorem SL.flat {α : Type} {enc : α → List Value} {sz : Nat} (he : ∀ x, (enc x).length = sz) {w : World} {b off n c : Nat} {l : List α} (h : SL (RF enc) sz w (.slice (some ⟨b, off, none⟩) n c) l) : ∀ j u, (l.flatMap enc)[j]? = some u → w.cell? ⟨b, off + j, none⟩ = some u := by
  intro j u hu
  obtain ⟨a', c', e, _, hc⟩ := h.open
  cases e
  have hj := (List.getElem?_eq_some_iff.1 hu).1
  rw [flatMap_length he] at hj
  have hsz : 0 < sz := by
    rcases Nat.eq_zero_or_pos sz with h0 | h0
    · subst h0; simp at hj
    · exact h0
  have hi : j / sz < l.length := Nat.div_lt_of_lt_mul (by rw [Nat.mul_comm]; exact hj)
  obtain ⟨x, hx⟩ := getElem?_some_of_lt hi
  have hm : j % sz < (enc x).length := by rw [he]; exact Nat.mod_lt _ hsz
  obtain ⟨u', hu'⟩ := getElem?_some_of_lt hm
  have e : j / sz * sz + j % sz = j := by rw [Nat.mul_comm]; exact Nat.div_add_mod j sz
  have h1 := flatMap_get he hx hu'
  rw [e, hu] at h1
  cases h1
  obtain ⟨b', off', e2, _, hcc⟩ := hc _ x hx
  cases e2
  have h2 := hcc _ _ hu'
  rwa [Nat.add_assoc, e] at h2
/-- append of a whole slice behind one of the call's own. -/
theorem wpList_cat {P : Program} {t e sz bytes : Nat} (F : AppFacts P t e sz bytes) {ops : Array Oper} {rest : List Oper} {o : Oper} {a : Act} {Q : Exit → Act → World → Prop} (hgd : o.guard = none) (s x : Operand)
    (ho : o.op = .call { callee := .builtin .append, args := #[s, x], argTypes := #[t, t] }) {α : Type} (enc : α → List Value) (he : ∀ x, (enc x).length = sz) (Wb : World) {lo : Nat} {w : World} (ys : List α) (l : List α) {v : Value} (hs : a.eval s = v)
    (hown : Own enc e sz lo w v l) (hE : Ext Wb w) (hlo : Wb.heap.size ≤ lo) (hlo' : lo ≤ w.heap.size) {b off m c : Nat} (hx : a.eval x = .slice (some ⟨b, off, none⟩) m c) (hm : m = ys.length) (hys : SL (RF enc) sz w (.slice (some ⟨b, off, none⟩) m c) ys)
    (h1 : ∀ u ∈ ys.flatMap enc, u.oneCell' = true) (hb : (l.length + ys.length) * bytes ≤ 140737488355328) (hb' : l.length + ys.length ≤ 9223372036854775807)
    (h : ∀ v' (z1 : Extd Wb), Own enc e sz lo z1.val v' (l ++ ys) → wpList P ops Q rest (a.put o.dst v') z1.val) : wpList P ops Q (o :: rest) a w := by
  subst hm
  obtain ⟨i, z, hi, hz, hsize, hby, hzs⟩ := F.info
  have hown' : w.ownsRow lo e sz v l.length (l.flatMap enc) := hown
  refine wpList_append_own_at _ hgd s x t ho lo e i z sz bytes F.und hi hz hsize hby hzs F.pos v l.length (l.flatMap enc) hs hown' ⟨b, off, none⟩ ys.length c (ys.flatMap enc) hx (flatMap_length he ys) (fun j u hu => ?_) h1 (by simpa [maxLen] using hb') hb hlo' ?_
  · have e1 : (⟨b, off, none⟩ : Addr).add j = ⟨b, off + j, none⟩ := by unfold Addr.add; split <;> simp_all
    rw [e1]
    exact SL.flat he hys j u hu
  · intro v' w1 hown1 hg1 _ hblk
    refine h v' ⟨w1, hE.grown hg1 fun k hk => Nat.le_trans hlo (World.ownsRow.lt hown' k hk).1⟩ ?_
    show w1.ownsRow _ _ _ _ _ _
    simpa [Own] using hown1
theorem oneEs (l : List Ent) : ∀ u ∈ l.flatMap Ent.enc, u.oneCell' = true := by
  intro u hu
  obtain ⟨x, _, h⟩ := List.mem_flatMap.1 hu
  exact oneE x u h
def treeOf (s : List Ent) : Tree := if entsOk 1 s = true then ⟨s, [(firstB s, [])], [-1]⟩ else ⟨[], [], []⟩
theorem cloneEntries_any (s : List Ent) (v : Value) (w : World) (h : SL (RF Ent.enc) 2 w v s) (hl : s.length ≤ 1048576) :
    Calls Try.prog 73 #[v] w fun e w' => ∃ v', e = .returned v' ∧ Up w w' ∧ Own Ent.enc 75 2 w.heap.size w' v' s := by
  have H := Lib.hid h
  obtain ⟨p, c, rfl, _, _⟩ := h.openc
  rcases p with _ | ⟨b, off, spot⟩
  · obtain rfl : s = [] := by
      obtain ⟨_, _, e, _, hc⟩ := h.open
      cases e
      cases s with
      | nil => rfl
      | cons x s => obtain ⟨_, _, e2, _⟩ := hc 0 x rfl; cases e2
    clear h
    go_enter Try.func73, Try.ntmps73
    go_wp2_with fail
    go_ret
    exact ⟨_, rfl, (.of (by repeat (first | (with_reducible exact Ext.refl _) | (with_reducible refine Ext.up ?_ _) | (with_reducible refine Ext.alloc ?_ _) | (with_reducible refine Ext.drew ?_) | (with_reducible refine Ext.setRow ?_ (by first | exact LeS.le | exact LeS.add _ | (simp; done) | (simp; omega)) _) | (with_reducible refine Ext.setCell ?_ (by first | exact LeS.le | exact LeS.add _ | (simp; done) | (simp; omega)) _)))), Own.nil _ _ _ _ _⟩
  · clear h
    by_cases h0 : s.length = 0
    · obtain rfl : s = [] := List.eq_nil_of_length_eq_zero h0
      rw [show ([] : List Ent).length = 0 from rfl]
      go_enter Try.func73, Try.ntmps73
      go_wp2_with fail
      go_ret
      exact ⟨_, rfl, (.of (by repeat (first | (with_reducible exact Ext.refl _) | (with_reducible refine Ext.up ?_ _) | (with_reducible refine Ext.alloc ?_ _) | (with_reducible refine Ext.drew ?_) | (with_reducible refine Ext.setRow ?_ (by first | exact LeS.le | exact LeS.add _ | (simp; done) | (simp; omega)) _) | (with_reducible refine Ext.setCell ?_ (by first | exact LeS.le | exact LeS.add _ | (simp; done) | (simp; omega)) _)))), Own.nil _ _ _ _ _⟩
    have hsp : spot = none := by
      obtain ⟨_, _, e, _, hc⟩ := H.out.open
      obtain ⟨x, hx⟩ := getElem?_some_of_lt (l := s) (k := 0) (by omega)
      obtain ⟨_, _, e2, _⟩ := hc 0 x hx
      cases e; cases e2; rfl
    subst hsp
    go_enter Try.func73, Try.ntmps73
    go_wp2_with (at_builtin; refine wpList_cat fEnt rfl (.const (.slice none 0 0)) (.tmp 3) rfl Ent.enc Ent.enc_length w s [] rfl (Own.nil _ _ _ _ _) (by repeat (first | (with_reducible exact Ext.refl _) | (with_reducible refine Ext.up ?_ _) | (with_reducible refine Ext.alloc ?_ _) | (with_reducible refine Ext.drew ?_) | (with_reducible refine Ext.setRow ?_ (by first | exact LeS.le | exact LeS.add _ | (simp; done) | (simp; omega)) _) | (with_reducible refine Ext.setCell ?_ (by first | exact LeS.le | exact LeS.add _ | (simp; done) | (simp; omega)) _))) (Nat.le_refl _) LeS.le rfl rfl (H.out.up (by repeat (first | (with_reducible exact Ext.refl _) | (with_reducible refine Ext.up ?_ _) | (with_reducible refine Ext.alloc ?_ _) | (with_reducible refine Ext.drew ?_) | (with_reducible refine Ext.setRow ?_ (by first | exact LeS.le | exact LeS.add _ | (simp; done) | (simp; omega)) _) | (with_reducible refine Ext.setCell ?_ (by first | exact LeS.le | exact LeS.add _ | (simp; done) | (simp; omega)) _)))) (oneEs _) (by simp; omega) (by simp; omega) ?_; intro v1 z1 o1)
    go_ret
    exact ⟨_, rfl, ⟨z1, rfl⟩, o1⟩
def fb (s : List Ent) : TB := ⟨firstB s, .slice none 0 0, []⟩
theorem OB.one (eB eA lo : Nat) (w : World) (s : List Ent) (g : Nat) (hg : g = w.heap.size) (hlo : lo ≤ w.heap.size) : OB eB eA lo (w.alloc (.cells #[.int .i64 (firstB s).bf, .int .i64 (firstB s).ht, .int .i64 (firstB s).vw, .slice none 0 0, .int .i64 (firstB s).rt, .int .i64 (firstB s).ef] eB)) (.slice (some ⟨g, 0, none⟩) 1 1) [fb s] := by
  refine ⟨Own.lit hg hlo rfl rfl TB.enc_length (by simp), fun x hx => ?_, List.pairwise_singleton _ _⟩
  simp at hx
  subst hx
  exact ⟨Own.nil _ _ _ _ _, .inl rfl⟩
theorem OT.nil (eE eB eA eI lo hi : Nat) (w : World) (h : lo ≤ hi) : OT eE eB eA eI lo hi w (.slice none 0 0) (.slice none 0 0) (.slice none 0 0) [] [] [] :=
  ⟨lo, lo, Nat.le_refl _, Nat.le_refl _, h, Own.nil _ _ _ _ _, (fun k hk => by cases hk), ⟨Own.nil _ _ _ _ _, (fun x hx => by cases hx), List.Pairwise.nil⟩, (fun k hk => by cases hk), (fun x hx => by cases hx), Own.nil _ _ _ _ _, (fun k hk => by cases hk)⟩
theorem OT.yes (eE eB eA eI : Nat) (W : World) (z1 : Extd W) (z2 : Extd z1.val) (s : List Ent) (p0 : Option Addr) (c0 : Nat) (h : Own Ent.enc eE 2 W.heap.size z1.val (.slice p0 s.length c0) s) :
    OT eE eB eA eI W.heap.size (z2.val.heap.size + 1 + 1) ((z2.val.alloc (.cells #[.int .i64 (firstB s).bf, .int .i64 (firstB s).ht, .int .i64 (firstB s).vw, .slice none 0 0, .int .i64 (firstB s).rt, .int .i64 (firstB s).ef] eB)).alloc (.cells #[.int .i64 (-1)] eI)) (.slice p0 s.length c0) (.slice (some ⟨z2.val.heap.size, 0, none⟩) 1 1) (.slice (some ⟨z2.val.heap.size + 1, 0, none⟩) 1 1) s [fb s] [-1] := by
  have h1 := z1.ext.size
  have h2 := z2.ext.size
  refine ⟨z1.val.heap.size, z2.val.heap.size + 1, h1, by omega, by omega, h.up (((z2.ext).alloc _).alloc _), h.under, ?_, (fun k hk => ?_), (fun x hx => ?_), ?_, (fun k hk => ?_)⟩
  · exact (OB.one eB eA z1.val.heap.size z2.val s z2.val.heap.size rfl h2).up ((Ext.refl _).alloc _)
  · have : z2.val.heap.size = k := by simpa [Value.ownBlock] using hk
    omega
  · simp at hx
    subst hx
    intro k hk
    cases hk
  · exact Own.lit (by simp) (by simp) rfl rfl encI_length (by simp)
  · have : z2.val.heap.size + 1 = k := by simpa [Value.ownBlock] using hk
    omega
set_option maxRecDepth 100000 in
theorem iTreeOf_any (s : List Ent) (v : Value) (w : World) (h : SL (RF Ent.enc) 2 w v s) (hl : s.length ≤ 1048576) :
    Calls Try.prog 27 #[v] w fun e w' => ∃ v0 v1 v2 bs, e = .returned (.agg #[v0, v1, v2]) ∧ Up w w' ∧ bs.map TB.core = (treeOf s).bs ∧ (entsOk 1 s = true → bs = [fb s]) ∧ (entsOk 1 s = false → bs = []) ∧ OT 75 27 71 3 w.heap.size w'.heap.size w' v0 v1 v2 (treeOf s).base bs (treeOf s).pr := by
  have H := Lib.hid h; clear h
  have kv := fun w v h => iStoreValid_any s v w h
  rcases hok : entsOk 1 s with _ | _
  · rw [hok] at kv
    have ht : treeOf s = ⟨[], [], []⟩ := by unfold treeOf; rw [hok]; rfl
    rw [ht]
    go_enter Try.func27, Try.ntmps27
    go_wp2_with (go_at_call 59; refine (kv _ _ (H.out.up (by repeat (first | (with_reducible exact Ext.refl _) | (with_reducible refine Ext.up ?_ _) | (with_reducible refine Ext.alloc ?_ _) | (with_reducible refine Ext.drew ?_) | (with_reducible refine Ext.setRow ?_ (by first | exact LeS.le | exact LeS.add _ | (simp; done) | (simp; omega)) _) | (with_reducible refine Ext.setCell ?_ (by first | exact LeS.le | exact LeS.add _ | (simp; done) | (simp; omega)) _))))).mono ?_; rintro e w' ⟨rfl, z, rfl⟩)
    refine bodyPost_ret (v := .agg #[.slice none 0 0, .slice none 0 0, .slice none 0 0]) (by simp [results, Try.results27, go_sem]) rfl ?_
    refine ⟨_, _, _, [], rfl, (.of (by repeat (first | (with_reducible exact Ext.refl _) | (with_reducible refine Ext.up ?_ _) | (with_reducible refine Ext.alloc ?_ _) | (with_reducible refine Ext.drew ?_) | (with_reducible refine Ext.setRow ?_ (by first | exact LeS.le | exact LeS.add _ | (simp; done) | (simp; omega)) _) | (with_reducible refine Ext.setCell ?_ (by first | exact LeS.le | exact LeS.add _ | (simp; done) | (simp; omega)) _)))), rfl, fun e => (by cases e), fun _ => rfl, OT.nil _ _ _ _ _ _ _ ?_⟩
    simp [setCell_size]
    have := z.ext.size
    simp at this
    omega
  · rw [hok] at kv
    have ht : treeOf s = ⟨s, [(firstB s, [])], [-1]⟩ := by unfold treeOf; rw [hok]; rfl
    rw [ht]
    go_enter Try.func27, Try.ntmps27
    go_wp2_with (go_at_call 59; refine (kv _ _ (H.out.up (by repeat (first | (with_reducible exact Ext.refl _) | (with_reducible refine Ext.up ?_ _) | (with_reducible refine Ext.alloc ?_ _) | (with_reducible refine Ext.drew ?_) | (with_reducible refine Ext.setRow ?_ (by first | exact LeS.le | exact LeS.add _ | (simp; done) | (simp; omega)) _) | (with_reducible refine Ext.setCell ?_ (by first | exact LeS.le | exact LeS.add _ | (simp; done) | (simp; omega)) _))))).mono ?_; rintro e w' ⟨rfl, z, rfl⟩)
    refine (cloneEntries_any s _ _ (H.out.up (by repeat (first | (with_reducible exact Ext.refl _) | (with_reducible refine Ext.up ?_ _) | (with_reducible refine Ext.alloc ?_ _) | (with_reducible refine Ext.drew ?_) | (with_reducible refine Ext.setRow ?_ (by first | exact LeS.le | exact LeS.add _ | (simp; done) | (simp; omega)) _) | (with_reducible refine Ext.setCell ?_ (by first | exact LeS.le | exact LeS.add _ | (simp; done) | (simp; omega)) _)))) hl).mono ?_; rintro e w' ⟨y0, rfl, ⟨z1, rfl⟩, o0⟩
    obtain ⟨p0, c0, rfl, _, _⟩ := (o0.sl Ent.enc_length).openc
    have O0 := Lib.hid o0; clear o0
    go_wp2_with fail
    refine (iFB s _ _ (H.out.up (by repeat (first | (with_reducible exact Ext.refl _) | (with_reducible refine Ext.up ?_ _) | (with_reducible refine Ext.alloc ?_ _) | (with_reducible refine Ext.drew ?_) | (with_reducible refine Ext.setRow ?_ (by first | exact LeS.le | exact LeS.add _ | (simp; done) | (simp; omega)) _) | (with_reducible refine Ext.setCell ?_ (by first | exact LeS.le | exact LeS.add _ | (simp; done) | (simp; omega)) _))))).mono ?_; rintro e w' ⟨rfl, ⟨z2, rfl⟩⟩
    go_wp2_with fail
    refine bodyPost_ret (v := .agg #[.slice p0 s.length c0, .slice (some ⟨z2.val.heap.size, 0, none⟩) 1 1, .slice (some ⟨z2.val.heap.size + 1, 0, none⟩) 1 1]) (by simp [results, Try.results27, go_sem]) rfl ?_
    have hz : w.heap.size + 1 ≤ z.val.heap.size := by have := z.ext.size; simpa using this
    have T := OT.yes 75 27 71 3 z.val z1 z2 s p0 c0 O0.out
    refine ⟨_, _, _, [fb s], rfl, (.of (by repeat (first | (with_reducible exact Ext.refl _) | (with_reducible refine Ext.up ?_ _) | (with_reducible refine Ext.alloc ?_ _) | (with_reducible refine Ext.drew ?_) | (with_reducible refine Ext.setRow ?_ (by first | exact LeS.le | exact LeS.add _ | (simp; done) | (simp; omega)) _) | (with_reducible refine Ext.setCell ?_ (by first | exact LeS.le | exact LeS.add _ | (simp; done) | (simp; omega)) _)))), rfl, fun _ => rfl, fun e => (by cases e), OT.mono (OT.setOld (OT.setOld (OT.setOld T ⟨w.heap.size, 0, none⟩ _ (show w.heap.size < _ by omega)) ⟨w.heap.size, 1, none⟩ _ (show w.heap.size < _ by omega)) ⟨w.heap.size, 2, none⟩ _ (show w.heap.size < _ by omega)) (by omega) (by simp [setCell_size])⟩
set_option maxRecDepth 100000 in
set_option maxHeartbeats 1000000 in
theorem sTreeOf_any (s : List Ent) (v : Value) (w : World) (h : SL (RF Ent.enc) 2 w v s) (hl : s.length ≤ 1048576) :
    Calls Try.prog 29 #[v] w fun e w' => ∃ v0 v1 v2 bs, e = .returned (.agg #[v0, v1, v2]) ∧ Up w w' ∧ bs.map TB.core = (treeOf s).bs ∧ (entsOk 1 s = true → bs = [fb s]) ∧ (entsOk 1 s = false → bs = []) ∧ OT 75 27 71 3 w.heap.size w'.heap.size w' v0 v1 v2 (treeOf s).base bs (treeOf s).pr := by
  have H := Lib.hid h
  have kv := fun w v h => sStoreValid_any s v w h
  rcases hok : entsOk 1 s with _ | _
  · clear h
    rw [hok] at kv
    have ht : treeOf s = ⟨[], [], []⟩ := by unfold treeOf; rw [hok]; rfl
    rw [ht]
    go_enter Try.func29, Try.ntmps29
    go_wp2_with (go_at_call 19; refine (kv _ _ (H.out.up (by repeat (first | (with_reducible exact Ext.refl _) | (with_reducible refine Ext.up ?_ _) | (with_reducible refine Ext.alloc ?_ _) | (with_reducible refine Ext.drew ?_) | (with_reducible refine Ext.setRow ?_ (by first | exact LeS.le | exact LeS.add _ | (simp; done) | (simp; omega)) _) | (with_reducible refine Ext.setCell ?_ (by first | exact LeS.le | exact LeS.add _ | (simp; done) | (simp; omega)) _))))).mono ?_; rintro e w' ⟨rfl, z, rfl⟩)
    refine bodyPost_ret (v := .agg #[.slice none 0 0, .slice none 0 0, .slice none 0 0]) (by simp [results, Try.results29, go_sem]) rfl ?_
    refine ⟨_, _, _, [], rfl, (.of (by repeat (first | (with_reducible exact Ext.refl _) | (with_reducible refine Ext.up ?_ _) | (with_reducible refine Ext.alloc ?_ _) | (with_reducible refine Ext.drew ?_) | (with_reducible refine Ext.setRow ?_ (by first | exact LeS.le | exact LeS.add _ | (simp; done) | (simp; omega)) _) | (with_reducible refine Ext.setCell ?_ (by first | exact LeS.le | exact LeS.add _ | (simp; done) | (simp; omega)) _)))), rfl, fun e => (by cases e), fun _ => rfl, OT.nil _ _ _ _ _ _ _ ?_⟩
    simp [setCell_size]
    have := z.ext.size
    simp at this
    omega
  rw [hok] at kv
  have ht : treeOf s = ⟨s, [(firstB s, [])], [-1]⟩ := by unfold treeOf; rw [hok]; rfl
  rw [ht]
  obtain ⟨p, c, rfl, _, _⟩ := h.openc
  by_cases h0 : s.length = 0
  · obtain rfl : s = [] := List.eq_nil_of_length_eq_zero h0
    clear h
    rcases p with _ | ⟨b, off, spot⟩
    · go_enter Try.func29, Try.ntmps29
      go_wp2_with (go_at_call 19; refine (kv _ _ (H.out.up (by repeat (first | (with_reducible exact Ext.refl _) | (with_reducible refine Ext.up ?_ _) | (with_reducible refine Ext.alloc ?_ _) | (with_reducible refine Ext.drew ?_) | (with_reducible refine Ext.setRow ?_ (by first | exact LeS.le | exact LeS.add _ | (simp; done) | (simp; omega)) _) | (with_reducible refine Ext.setCell ?_ (by first | exact LeS.le | exact LeS.add _ | (simp; done) | (simp; omega)) _))))).mono ?_; rintro e w' ⟨rfl, z, rfl⟩)
      refine (sFB [] _ _ (H.out.up (by repeat (first | (with_reducible exact Ext.refl _) | (with_reducible refine Ext.up ?_ _) | (with_reducible refine Ext.alloc ?_ _) | (with_reducible refine Ext.drew ?_) | (with_reducible refine Ext.setRow ?_ (by first | exact LeS.le | exact LeS.add _ | (simp; done) | (simp; omega)) _) | (with_reducible refine Ext.setCell ?_ (by first | exact LeS.le | exact LeS.add _ | (simp; done) | (simp; omega)) _))))).mono ?_; rintro e w' ⟨rfl, ⟨z2, rfl⟩⟩
      have O0 := Lib.hid (show Own Ent.enc 75 2 z.val.heap.size (z.val.alloc (.cells #[] 75)) (.slice (some ⟨z.val.heap.size, 0, none⟩) ([] : List Ent).length 0) [] from Own.lit rfl (Nat.le_refl _) rfl rfl Ent.enc_length (by simp))
      go_wp2_with fail
      refine bodyPost_ret (v := .agg #[.slice (some ⟨z.val.heap.size, 0, none⟩) 0 0, .slice (some ⟨z2.val.heap.size, 0, none⟩) 1 1, .slice (some ⟨z2.val.heap.size + 1, 0, none⟩) 1 1]) (by simp [results, Try.results29, go_sem]) rfl ?_
      have hz : w.heap.size + 1 ≤ z.val.heap.size := by have := z.ext.size; simpa using this
      have T := OT.yes 75 27 71 3 z.val ⟨z.val.alloc (.cells #[] 75), (Ext.refl _).alloc _⟩ z2 [] _ _ O0.out
      refine ⟨_, _, _, [fb []], rfl, (.of (by repeat (first | (with_reducible exact Ext.refl _) | (with_reducible refine Ext.up ?_ _) | (with_reducible refine Ext.alloc ?_ _) | (with_reducible refine Ext.drew ?_) | (with_reducible refine Ext.setRow ?_ (by first | exact LeS.le | exact LeS.add _ | (simp; done) | (simp; omega)) _) | (with_reducible refine Ext.setCell ?_ (by first | exact LeS.le | exact LeS.add _ | (simp; done) | (simp; omega)) _)))), rfl, fun _ => rfl, fun e => (by cases e), OT.mono (OT.setOld (OT.setOld (OT.setOld T ⟨w.heap.size, 0, none⟩ _ (show w.heap.size < _ by omega)) ⟨w.heap.size, 1, none⟩ _ (show w.heap.size < _ by omega)) ⟨w.heap.size, 2, none⟩ _ (show w.heap.size < _ by omega)) (by omega) (by simp [setCell_size])⟩
    · go_enter Try.func29, Try.ntmps29
      go_wp2_with (go_at_call 19; refine (kv _ _ (H.out.up (by repeat (first | (with_reducible exact Ext.refl _) | (with_reducible refine Ext.up ?_ _) | (with_reducible refine Ext.alloc ?_ _) | (with_reducible refine Ext.drew ?_) | (with_reducible refine Ext.setRow ?_ (by first | exact LeS.le | exact LeS.add _ | (simp; done) | (simp; omega)) _) | (with_reducible refine Ext.setCell ?_ (by first | exact LeS.le | exact LeS.add _ | (simp; done) | (simp; omega)) _))))).mono ?_; rintro e w' ⟨rfl, z, rfl⟩)
      refine (sFB [] _ _ (H.out.up (by repeat (first | (with_reducible exact Ext.refl _) | (with_reducible refine Ext.up ?_ _) | (with_reducible refine Ext.alloc ?_ _) | (with_reducible refine Ext.drew ?_) | (with_reducible refine Ext.setRow ?_ (by first | exact LeS.le | exact LeS.add _ | (simp; done) | (simp; omega)) _) | (with_reducible refine Ext.setCell ?_ (by first | exact LeS.le | exact LeS.add _ | (simp; done) | (simp; omega)) _))))).mono ?_; rintro e w' ⟨rfl, ⟨z2, rfl⟩⟩
      have O0 := Lib.hid (show Own Ent.enc 75 2 z.val.heap.size (z.val.alloc (.cells #[] 75)) (.slice (some ⟨z.val.heap.size, 0, none⟩) ([] : List Ent).length 0) [] from Own.lit rfl (Nat.le_refl _) rfl rfl Ent.enc_length (by simp))
      go_wp2_with fail
      refine bodyPost_ret (v := .agg #[.slice (some ⟨z.val.heap.size, 0, none⟩) 0 0, .slice (some ⟨z2.val.heap.size, 0, none⟩) 1 1, .slice (some ⟨z2.val.heap.size + 1, 0, none⟩) 1 1]) (by simp [results, Try.results29, go_sem]) rfl ?_
      have hz : w.heap.size + 1 ≤ z.val.heap.size := by have := z.ext.size; simpa using this
      have T := OT.yes 75 27 71 3 z.val ⟨z.val.alloc (.cells #[] 75), (Ext.refl _).alloc _⟩ z2 [] _ _ O0.out
      refine ⟨_, _, _, [fb []], rfl, (.of (by repeat (first | (with_reducible exact Ext.refl _) | (with_reducible refine Ext.up ?_ _) | (with_reducible refine Ext.alloc ?_ _) | (with_reducible refine Ext.drew ?_) | (with_reducible refine Ext.setRow ?_ (by first | exact LeS.le | exact LeS.add _ | (simp; done) | (simp; omega)) _) | (with_reducible refine Ext.setCell ?_ (by first | exact LeS.le | exact LeS.add _ | (simp; done) | (simp; omega)) _)))), rfl, fun _ => rfl, fun e => (by cases e), OT.mono (OT.setOld (OT.setOld (OT.setOld T ⟨w.heap.size, 0, none⟩ _ (show w.heap.size < _ by omega)) ⟨w.heap.size, 1, none⟩ _ (show w.heap.size < _ by omega)) ⟨w.heap.size, 2, none⟩ _ (show w.heap.size < _ by omega)) (by omega) (by simp [setCell_size])⟩
  · obtain ⟨x, hx⟩ := getElem?_some_of_lt (l := s) (k := 0) (by omega)
    obtain ⟨_, _, e, _, hc⟩ := h.open
    cases e
    obtain ⟨b, off, rfl, _⟩ := hc 0 x hx
    clear h hc hx
    go_enter Try.func29, Try.ntmps29
    go_wp2_with (first | (go_at_call 19; refine (kv _ _ (H.out.up (by repeat (first | (with_reducible exact Ext.refl _) | (with_reducible refine Ext.up ?_ _) | (with_reducible refine Ext.alloc ?_ _) | (with_reducible refine Ext.drew ?_) | (with_reducible refine Ext.setRow ?_ (by first | exact LeS.le | exact LeS.add _ | (simp; done) | (simp; omega)) _) | (with_reducible refine Ext.setCell ?_ (by first | exact LeS.le | exact LeS.add _ | (simp; done) | (simp; omega)) _))))).mono ?_; rintro e w' ⟨rfl, z, rfl⟩) | (at_builtin; refine wpList_cat fEnt rfl (.tmp 7) (.tmp 8) rfl Ent.enc Ent.enc_length z.val s [] rfl (Own.lit rfl (Nat.le_refl _) rfl rfl Ent.enc_length (by simp)) (by repeat (first | (with_reducible exact Ext.refl _) | (with_reducible refine Ext.up ?_ _) | (with_reducible refine Ext.alloc ?_ _) | (with_reducible refine Ext.drew ?_) | (with_reducible refine Ext.setRow ?_ (by first | exact LeS.le | exact LeS.add _ | (simp; done) | (simp; omega)) _) | (with_reducible refine Ext.setCell ?_ (by first | exact LeS.le | exact LeS.add _ | (simp; done) | (simp; omega)) _))) (Nat.le_refl _) LeS.le rfl rfl (H.out.up (by repeat (first | (with_reducible exact Ext.refl _) | (with_reducible refine Ext.up ?_ _) | (with_reducible refine Ext.alloc ?_ _) | (with_reducible refine Ext.drew ?_) | (with_reducible refine Ext.setRow ?_ (by first | exact LeS.le | exact LeS.add _ | (simp; done) | (simp; omega)) _) | (with_reducible refine Ext.setCell ?_ (by first | exact LeS.le | exact LeS.add _ | (simp; done) | (simp; omega)) _)))) (oneEs _) (by simp; omega) (by simp; omega) ?_; intro v1 z1 o1; obtain ⟨p0, c0, hv0, _, _⟩ := (o1.sl Ent.enc_length).openc; subst hv0))
    have O0 := Lib.hid (show Own Ent.enc 75 2 z.val.heap.size z1.val (.slice p0 s.length c0) s from o1); clear o1
    refine (sFB s _ _ (H.out.up (by repeat (first | (with_reducible exact Ext.refl _) | (with_reducible refine Ext.up ?_ _) | (with_reducible refine Ext.alloc ?_ _) | (with_reducible refine Ext.drew ?_) | (with_reducible refine Ext.setRow ?_ (by first | exact LeS.le | exact LeS.add _ | (simp; done) | (simp; omega)) _) | (with_reducible refine Ext.setCell ?_ (by first | exact LeS.le | exact LeS.add _ | (simp; done) | (simp; omega)) _))))).mono ?_; rintro e w' ⟨rfl, ⟨z2, rfl⟩⟩
    go_wp2_with fail
    refine bodyPost_ret (v := .agg #[.slice p0 s.length c0, .slice (some ⟨z2.val.heap.size, 0, none⟩) 1 1, .slice (some ⟨z2.val.heap.size + 1, 0, none⟩) 1 1]) (by simp [results, Try.results29, go_sem]) rfl ?_
    have hz : w.heap.size + 1 ≤ z.val.heap.size := by have := z.ext.size; simpa using this
    have T := OT.yes 75 27 71 3 z.val z1 z2 s p0 c0 O0.out
    refine ⟨_, _, _, [fb s], rfl, (.of (by repeat (first | (with_reducible exact Ext.refl _) | (with_reducible refine Ext.up ?_ _) | (with_reducible refine Ext.alloc ?_ _) | (with_reducible refine Ext.drew ?_) | (with_reducible refine Ext.setRow ?_ (by first | exact LeS.le | exact LeS.add _ | (simp; done) | (simp; omega)) _) | (with_reducible refine Ext.setCell ?_ (by first | exact LeS.le | exact LeS.add _ | (simp; done) | (simp; omega)) _)))), rfl, fun _ => rfl, fun e => (by cases e), OT.mono (OT.setOld (OT.setOld (OT.setOld T ⟨w.heap.size, 0, none⟩ _ (show w.heap.size < _ by omega)) ⟨w.heap.size, 1, none⟩ _ (show w.heap.size < _ by omega)) ⟨w.heap.size, 2, none⟩ _ (show w.heap.size < _ by omega)) (by omega) (by simp [setCell_size])⟩
end Go.Proofs.Ytphkimbhjfjjkaa
namespace Go.Proofs.Ytphkimbhjfjjkaa
open Go Go.RowKit Go.Proofs

end Go.Proofs.Ytphkimbhjfjjkaa
