/- Plain ground: append of a whole slice to an empty one of no room: nothing that was there changes. Walks: engines that are copied, the reference's side: effects. Walks: engines, the reference's side: an action is tried. Plain laws: engines: what an action that is tried reads and does. Plain laws: engines: what every step keeps. Walks: the laws' helpers of engines: sizes, copies, comparisons. Plain ground: engines whose slots all lie apart. -/
import Derived.Test.YtnknamddonjnjaaGEoVTop18
import Derived.Test.YtnknamddonjnjaaGEoVTop14
import Derived.Test.YtnknamddonjnjaaGEoVTop21
import Derived.Test.YtnknamddonjnjaaGEoVTop13
import Derived.Test.YtnknamddonjnjaaGEoVTop03
import Derived.Test.YtnknamddonjnjaaGEoVTop20
import Derived.Test.YtnknamddonjnjaaGEoVTop09
set_option linter.unusedSimpArgs false
set_option linter.unusedVariables false
namespace Go.Proofs.Ytnknamddonjnjaa
open Go Go.RowKit Go.Proofs

theorem run_clone {P : Program} (w : World) (base : Nat) (t ty e : TypeId) (i : TypeInfo) (z : Value) (size bytes : Nat) (ht : P.underlying t = some (.slice e)) (hi : P.info? e = some i) (hz : i.zero = some z)
    (hsize : i.size = size) (hby : i.bytes = bytes) (hzs : z.cells.size = size) (hsz : 0 < size) (g : Nat) (hown : w.ownsRow base e size (.slice (some ⟨g, 0, none⟩) 0 0) 0 [])
    (a : Addr) (m c : Nat) (news : List Value) (hl : news.length = m * size) (hnews : ∀ j u, news[j]? = some u → w.cell? (a.add j) = some u) (h1 : ∀ u ∈ news, u.oneCell' = true)
    (h63 : m ≤ maxLen) (hbytes : m * bytes ≤ 140737488355328) (hbase : base ≤ w.heap.size) :
    ∃ v' w', (Builtin.append_ #[t, t] ty #[.slice (some ⟨g, 0, none⟩) 0 0, .slice (some a) m c]).run P w = .ok v' w' ∧ w'.ownsRow base e size v' m news ∧ Ext w w' ∧ (v'.ownBlock = some g ∨ v'.ownBlock = some w.heap.size) := by
  by_cases hm : m = 0
  · subst hm
    have hn : news = [] := List.eq_nil_of_length_eq_zero (by simpa using hl)
    subst hn
    refine ⟨_, w, ?_, hown, Ext.refl w, .inl rfl⟩
    simp [Builtin.append_, run_underlying ht, sizeOf, typeInfo, hi, Builtin.lenOf, Builtin.firstCells, loadCells, loadCellsFrom, storeCells]
  · obtain ⟨v', w', hr, h2, h3, h4, h5⟩ := run_append_own_at (P := P) w base t ty e i z size bytes ht hi hz hsize hby hzs hsz _ 0 [] hown a m c news hl hnews h1 (by omega) (by simpa using hbytes) hbase
    have hr2 := run_append_grow (P := P) w t ty e i z ht hi hz ⟨g, 0, none⟩ 0 0 [] (by simp) (by simp) a m c news (by rw [hsize]; exact hl) hnews (by omega) (by simp only [maxLen] at h63; omega) (growslice_fits (by omega) (by rw [hby]; simpa using hbytes))
    rw [hr] at hr2
    simp only [Result.ok.injEq] at hr2
    refine ⟨v', w', hr, by simpa using h2, ?_, ?_⟩
    · rw [hr2.2]; exact ((Ext.refl w).drew).alloc _
    · rw [hr2.1]; exact .inr rfl
theorem heap_alloc_at {W : World} {o : Obj} {g : Nat} (hg : g = W.heap.size) : (W.alloc o).heap[g]? = some o := by subst hg; exact heap_alloc_new _ _
theorem Extd.row_lt {W : World} (z : Extd W) {n : Nat} (h : n < W.heap.size) : z.val.heap[n]? = W.heap[n]? := z.ext.block h
theorem drew_row (W : World) (n : Nat) : W.drew.heap[n]? = W.heap[n]? := rfl
theorem own_lit0 {α : Type} {enc : α → List Value} {e sz lo g : Nat} {W : World} (hrow : W.heap[g]? = some (.cells #[] e (0, 0))) (hlo : lo ≤ g) : Own enc e sz lo W (.slice (some ⟨g, 0, none⟩) 0 0) [] :=
  ⟨by simp, .inr ⟨g, 0, #[], rfl, hlo, hrow, Nat.le_refl _, by decide, by simp, by simp⟩⟩
section
variable {P : Program} {t e sz bytes : Nat} (F : AppFacts P t e sz bytes) {α : Type} (enc : α → List Value) (he : ∀ x, (enc x).length = sz) {lo : Nat} {w : World} (ys : List α) {vx : Value} {g : Nat}
include F he
theorem clone_run (ty : TypeId) (hown : Own enc e sz lo w (.slice (some ⟨g, 0, none⟩) 0 0) []) (hys : SL (RF enc) sz w vx ys) (h1 : ∀ u ∈ ys.flatMap enc, u.oneCell' = true) (hb : ys.length * bytes ≤ 140737488355328) (hb' : ys.length ≤ 9223372036854775807) (hlo' : lo ≤ w.heap.size) :
    ∃ v' w', (Builtin.append_ #[t, t] ty #[.slice (some ⟨g, 0, none⟩) 0 0, vx]).run P w = .ok v' w' ∧ Own enc e sz lo w' v' ys ∧ Ext w w' ∧ (v'.ownBlock = some g ∨ v'.ownBlock = some w.heap.size) := by
  obtain ⟨i, z, hi, hz, hsize, hby, hzs⟩ := F.info
  have hown' : w.ownsRow lo e sz (.slice (some ⟨g, 0, none⟩) 0 0) 0 [] := hown
  obtain ⟨p, c, rfl, _, hc⟩ := hys.open
  rcases p with _ | ad
  · obtain rfl : ys = [] := by
      cases ys with
      | nil => rfl
      | cons y ys => obtain ⟨_, _, e2, _⟩ := hc 0 y rfl; cases e2
    exact ⟨_, w, run_append_none (P := P) (w := w) lo t ty e i sz F.und hi _ 0 c _ hown', hown, Ext.refl w, .inl rfl⟩
  · obtain ⟨v', w1, hr, h2, h3, h5⟩ := run_clone (P := P) w lo t ty e i z sz bytes F.und hi hz hsize hby hzs F.pos g hown' ad ys.length c (ys.flatMap enc) (flatMap_length he ys) (fun j u hu => by
      have hj := (List.getElem?_eq_some_iff.1 hu).1
      have h0 : 0 < ys.length := by
        cases ys with
        | nil => simp at hj
        | cons y ys => simp
      obtain ⟨y, hy⟩ := getElem?_some_of_lt (l := ys) (k := 0) h0
      obtain ⟨b, off, e2, _⟩ := hc 0 y hy
      cases e2
      have e1 : (⟨b, off, none⟩ : Addr).add j = ⟨b, off + j, none⟩ := by unfold Addr.add; split <;> simp_all
      rw [e1]
      exact SL.flatC he hys j u hu) h1 (by simpa [maxLen] using hb') hb hlo'
    exact ⟨v', w1, hr, h2, h3, h5⟩
theorem step_clone {ops : Array Oper} {o : Oper} {a : Act} {K : Act → World → Prop} {Q : Exit → Act → World → Prop} {E : Prop} (hw : Region.wanted o (yielded ops a.tmps) = true) (s x : Operand)
    (ho : o.op = .call { callee := .builtin .append, args := #[s, x], argTypes := #[t, t] }) (hs : a.eval s = .slice (some ⟨g, 0, none⟩) 0 0) (hx : a.eval x = vx) (hrow : w.heap[g]? = some (.cells #[] e (0, 0))) (hlo : lo ≤ g) (hys : SL (RF enc) sz w vx ys)
    (h1 : ∀ u ∈ ys.flatMap enc, u.oneCell' = true) (hb : ys.length * bytes ≤ 140737488355328) (hb' : ys.length ≤ 9223372036854775807)
    (h : ∀ v' (z1 : Extd w), Own enc e sz lo z1.val v' ys → (v'.ownBlock = some g ∨ v'.ownBlock = some w.heap.size) → K (a.put o.dst v') z1.val) :
    if Region.wanted o (yielded ops a.tmps) = true then Oper.wp P o a w K Q else E := by
  rw [if_pos hw]
  have hgl := (Array.getElem?_eq_some_iff.1 hrow).1
  obtain ⟨v', w1, hr, h2, h3, h5⟩ := clone_run F enc he ys o.type (own_lit0 (enc := enc) (sz := sz) hrow hlo) hys h1 hb hb' (by omega)
  unfold Oper.wp execOp
  simp only [ho, resolve, invoke, builtin, Sem.run_bind, Sem.run_pure, Result.andThen_ok, List.map_toArray, List.map_cons, List.map_nil, hs, hx, hr]
  exact h v' ⟨w1, h3⟩ h2 h5
theorem wpList_clone {ops : Array Oper} {rest : List Oper} {o : Oper} {a : Act} {Q : Exit → Act → World → Prop} (hgd : o.guard = none) (s x : Operand)
    (ho : o.op = .call { callee := .builtin .append, args := #[s, x], argTypes := #[t, t] }) (hs : a.eval s = .slice (some ⟨g, 0, none⟩) 0 0) (hx : a.eval x = vx) (hrow : w.heap[g]? = some (.cells #[] e (0, 0))) (hlo : lo ≤ g) (hys : SL (RF enc) sz w vx ys)
    (h1 : ∀ u ∈ ys.flatMap enc, u.oneCell' = true) (hb : ys.length * bytes ≤ 140737488355328) (hb' : ys.length ≤ 9223372036854775807)
    (h : ∀ v' (z1 : Extd w), Own enc e sz lo z1.val v' ys → (v'.ownBlock = some g ∨ v'.ownBlock = some w.heap.size) → wpList P ops Q rest (a.put o.dst v') z1.val) : wpList P ops Q (o :: rest) a w := by
  have hgl := (Array.getElem?_eq_some_iff.1 hrow).1
  obtain ⟨v', w1, hr, h2, h3, h5⟩ := clone_run F enc he ys o.type (own_lit0 (enc := enc) (sz := sz) hrow hlo) hys h1 hb hb' (by omega)
  refine wpList_plain hgd fun K hK => ?_
  unfold Oper.wp execOp
  simp only [ho, resolve, invoke, builtin, Sem.run_bind, Sem.run_pure, Result.andThen_ok, List.map_toArray, List.map_cons, List.map_nil, hs, hx, hr]
  exact hK _ _ (h v' ⟨w1, h3⟩ h2 h5)
end
end Go.Proofs.Ytnknamddonjnjaa
namespace Go.Proofs.Ytnknamddonjnjaa
open Go Go.RowKit Go.Proofs

set_option maxRecDepth 100000 in
set_option maxHeartbeats 8000000 in
theorem sEffCopy_any (x : Eff) (vr vw : Value) (w : World) (h1 : SL (RF Ent.enc) 2 w vr x.r) (h2 : SL (RF Ent.enc) 2 w vw x.w) (n1 : x.r.length ≤ 1000) (n2 : x.w.length ≤ 1000) :
    Calls Try.prog 81 #[.agg #[.bool x.d, vr, vw]] w fun e w' => ∃ vr' vw', e = .returned (.agg #[.bool x.d, vr', vw']) ∧ Up w w' ∧ Own Ent.enc 59 2 w.heap.size w' vr' x.r ∧ Own Ent.enc 59 2 w.heap.size w' vw' x.w ∧ Apart vr' vw' := by
  have H1 := Lib.hid h1; have H2 := Lib.hid h2
  obtain ⟨p1, c1, rfl, _, _⟩ := h1.openc
  obtain ⟨p2, c2, rfl, _, _⟩ := h2.openc
  clear h1 h2
  go_enter Try.func81, Try.ntmps81
  go_wp2_with fail
  (go_region_held3 (fun w' => (∀ n i, ∀ [LtS n (w.alloc (.cells #[.bool x.d, .slice p1 x.r.length c1, .slice p2 x.w.length c2] 37))], w'.cell? ⟨n, i, none⟩ = World.cell? (w.alloc (.cells #[.bool x.d, .slice p1 x.r.length c1, .slice p2 x.w.length c2] 37)) ⟨n, i, none⟩) ∧ Ext (w.alloc (.cells #[.bool x.d, .slice p1 x.r.length c1, .slice p2 x.w.length c2] 37)) w') ((refine S_of_ext ?_; (repeat (first | (with_reducible exact Ext.refl _) | (with_reducible refine Ext.up ?_ _) | (with_reducible refine Ext.alloc ?_ _) | (with_reducible refine Ext.drew ?_) | (with_reducible refine Ext.setRow ?_ (by first | exact LeS.le | exact LeS.add _ | (simp; done) | (simp; omega)) _) | (with_reducible refine Ext.setCell ?_ (by first | exact LeS.le | exact LeS.add _ | (simp; done) | (simp; omega)) _))); done)) (first | (refine step_clone fEnt Ent.enc Ent.enc_length (lo := w.heap.size + 1 + 1) x.r (by rfl) (.tmp 5) (.tmp 7) (by rfl) (by rfl) (by rfl) (by repeat (first | (with_reducible exact heap_alloc_new _ _) | (refine heap_alloc_at ?_; simp; done) | (with_reducible refine (Extd.row _ _).trans ?_) | (with_reducible refine (heap_alloc_old _ _ LtS.lt).trans ?_) | (with_reducible refine (drew_row _ _).trans ?_) | (with_reducible refine (heap_alloc_old _ _ (by simp; omega)).trans ?_) | (with_reducible refine (Extd.row_lt _ (by simp; omega)).trans ?_))) (by first | exact LeS.le | omega | (simp; omega)) (H1.out.up (by repeat (first | (with_reducible exact Ext.refl _) | (with_reducible refine Ext.up ?_ _) | (with_reducible refine Ext.alloc ?_ _) | (with_reducible refine Ext.drew ?_) | (with_reducible refine Ext.setRow ?_ (by first | exact LeS.le | exact LeS.add _ | (simp; done) | (simp; omega)) _) | (with_reducible refine Ext.setCell ?_ (by first | exact LeS.le | exact LeS.add _ | (simp; done) | (simp; omega)) _)))) (oneEs' _) (by omega) (by omega) ?_; intro v3 z3 o3 b3; obtain ⟨q3, d3, hv3, _, _⟩ := (o3.sl Ent.enc_length).openc; subst hv3) | (refine step_clone fEnt Ent.enc Ent.enc_length (lo := w.heap.size + 1 + 1) x.w (by rfl) (.tmp 9) (.tmp 11) (by rfl) (by rfl) (by rfl) (by repeat (first | (with_reducible exact heap_alloc_new _ _) | (refine heap_alloc_at ?_; simp; done) | (with_reducible refine (Extd.row _ _).trans ?_) | (with_reducible refine (heap_alloc_old _ _ LtS.lt).trans ?_) | (with_reducible refine (drew_row _ _).trans ?_) | (with_reducible refine (heap_alloc_old _ _ (by simp; omega)).trans ?_) | (with_reducible refine (Extd.row_lt _ (by simp; omega)).trans ?_))) (by first | exact LeS.le | omega | (have := z3.ext.size; simp at this; omega) | (simp; omega)) (H2.out.up (by repeat (first | (with_reducible exact Ext.refl _) | (with_reducible refine Ext.up ?_ _) | (with_reducible refine Ext.alloc ?_ _) | (with_reducible refine Ext.drew ?_) | (with_reducible refine Ext.setRow ?_ (by first | exact LeS.le | exact LeS.add _ | (simp; done) | (simp; omega)) _) | (with_reducible refine Ext.setCell ?_ (by first | exact LeS.le | exact LeS.add _ | (simp; done) | (simp; omega)) _)))) (oneEs' _) (by omega) (by omega) ?_; intro v4 z4 o4 b4; obtain ⟨q4, d4, hv4, _, _⟩ := (o4.sl Ent.enc_length).openc; subst hv4) | fail))
  all_goals
    go_wp2_with fail
    have h3 := z3.ext.size
    have h4 := z4.ext.size
    simp at h3 h4 b3 b4
    have L3 := fun n e => (World.ownsRow.lt o3 n e).2
    have L4 := fun n e => (World.ownsRow.lt o4 n e).2
    refine bodyPost_ret (v := .agg #[.bool x.d, .slice q3 x.r.length d3, .slice q4 x.w.length d4]) (by simp [results, Try.results81, go_sem]) rfl ?_
    refine ⟨_, _, rfl, (.of (by repeat (first | (with_reducible exact Ext.refl _) | (with_reducible refine Ext.up ?_ _) | (with_reducible refine Ext.alloc ?_ _) | (with_reducible refine Ext.drew ?_) | (with_reducible refine Ext.setRow ?_ (by first | exact LeS.le | exact LeS.add _ | (simp; done) | (simp; omega)) _) | (with_reducible refine Ext.setCell ?_ (by first | exact LeS.le | exact LeS.add _ | (simp; done) | (simp; omega)) _)))), Own.lo (lo := w.heap.size + 1 + 1) ?_ (by omega), Own.lo (lo := w.heap.size + 1 + 1) ?_ (by omega), ?_⟩
    · repeat (first | (with_reducible exact o3) | (with_reducible refine Own.setOld ?_ _ _ (by dsimp only; omega)) | (with_reducible refine Own.up ?_ (Extd.ext _)) | (with_reducible refine Own.alloc ?_))
    · repeat (first | (with_reducible exact o4) | (with_reducible refine Own.setOld ?_ _ _ (by dsimp only; omega)) | (with_reducible refine Own.up ?_ (Extd.ext _)) | (with_reducible refine Own.alloc ?_))
    · unfold Apart
      rcases b3 with e3 | e3 <;> rcases b4 with e4 | e4 <;> (have l3 := L3 _ e3; have l4 := L4 _ e4; rw [e3, e4]; simp <;> omega)
end Go.Proofs.Ytnknamddonjnjaa
namespace Go.Proofs.Ytnknamddonjnjaa
open Go Go.RowKit Go.Proofs

theorem nowF_snocY (s : List Ent) (V : List Ver) (n : Int) {rk : List Int} {k : Nat} {key : Int} (h : rk[k]? = some key) : nowF s V n (rk.take (k + 1)) = nowF s V n (rk.take k) ++ [(readV (atK s key) V key n).2] := by
  unfold nowF; rw [List.take_add_one, h]; simp
theorem nowF_length (s : List Ent) (V : List Ver) (n : Int) (rk : List Int) : (nowF s V n rk).length = rk.length := by simp [nowF]
/-- What an action does with what it reads now. -/
def tryE (s : List Ent) (V : List Ver) (n : Int) (x : Actn) : Eff := runE x (readV (atK s x.src) V x.src n).1 (readV (atK s x.dst) V x.dst n).1
set_option maxRecDepth 100000 in
set_option maxHeartbeats 4000000 in
theorem sTry_any (s : List Ent) (V : List Ver) (x : Actn) (n : Nat) (v0 v2 : Value) (w : World) (h0 : SL (RF Ent.enc) 2 w v0 s) (h2 : SL (RF Ver.enc) 3 w v2 V) (hxo : x.ok = true) (hs : entsOk 1 s = true) (hV : versOk V = true) :
    Calls Try.prog 82 #[v0, .agg #[.int .i64 x.kind, .int .i64 x.src, .int .i64 x.dst, .int .i64 x.amt], v2, .int .i64 n] w fun ed w' => ∃ vr vw vf, ed = .returned (.tuple #[.agg #[.bool (tryE s V n x).d, vr, vw], vf]) ∧ Up w w' ∧ Own Ent.enc 59 2 w.heap.size w' vr (tryE s V n x).r ∧ Own Ent.enc 59 2 w.heap.size w' vw (tryE s V n x).w ∧ Own encI 3 1 w.heap.size w' vf (nowF s V n x.rk) ∧ Apart vr vw ∧ Apart vf vr ∧ Apart vf vw := by
  have H0 := Lib.hid h0; have H2 := Lib.hid h2
  obtain ⟨p0, c0, rfl, _, _⟩ := h0.openc
  obtain ⟨p2, c2, rfl, _, _⟩ := h2.openc
  have kre := fun w => sReads_any x w
  simp only [hxo, if_true] at kre
  have r1 := (readV_inv (key := x.src) hV (show (0 : Int) ≤ (n : Int) by omega) (atK_in hs (by decide) x.src)).1
  have r2 := (readV_inv (key := x.dst) hV (show (0 : Int) ≤ (n : Int) by omega) (atK_in hs (by decide) x.dst)).1
  have krun := fun w => l6Run_any x (readV (atK s x.src) V x.src n).1 (readV (atK s x.dst) V x.dst n).1 w hxo r1.1 r1.2 r2.1 r2.2
  have kr := fun key w h h' => l9Read_any s V (.slice p0 s.length c0) (.slice p2 V.length c2) key (n : Int) w h h'
  have hrk := Actn.rk_le x
  clear h0 h2 r1 r2 hxo hs hV
  go_enter Try.func82, Try.ntmps82
  go_wp2_with fail
  refine (kr x.src _ (H0.out.up (by repeat (first | (with_reducible exact Ext.refl _) | (with_reducible refine Ext.up ?_ _) | (with_reducible refine Ext.alloc ?_ _) | (with_reducible refine Ext.drew ?_) | (with_reducible refine Ext.setRow ?_ (by first | exact LeS.le | exact LeS.add _ | (simp; done) | (simp; omega)) _) | (with_reducible refine Ext.setCell ?_ (by first | exact LeS.le | exact LeS.add _ | (simp; done) | (simp; omega)) _)))) (H2.out.up (by repeat (first | (with_reducible exact Ext.refl _) | (with_reducible refine Ext.up ?_ _) | (with_reducible refine Ext.alloc ?_ _) | (with_reducible refine Ext.drew ?_) | (with_reducible refine Ext.setRow ?_ (by first | exact LeS.le | exact LeS.add _ | (simp; done) | (simp; omega)) _) | (with_reducible refine Ext.setCell ?_ (by first | exact LeS.le | exact LeS.add _ | (simp; done) | (simp; omega)) _))))).mono ?_; rintro e w' ⟨rfl, rfl⟩
  go_wp2_with fail
  refine (kr x.dst _ (H0.out.up (by repeat (first | (with_reducible exact Ext.refl _) | (with_reducible refine Ext.up ?_ _) | (with_reducible refine Ext.alloc ?_ _) | (with_reducible refine Ext.drew ?_) | (with_reducible refine Ext.setRow ?_ (by first | exact LeS.le | exact LeS.add _ | (simp; done) | (simp; omega)) _) | (with_reducible refine Ext.setCell ?_ (by first | exact LeS.le | exact LeS.add _ | (simp; done) | (simp; omega)) _)))) (H2.out.up (by repeat (first | (with_reducible exact Ext.refl _) | (with_reducible refine Ext.up ?_ _) | (with_reducible refine Ext.alloc ?_ _) | (with_reducible refine Ext.drew ?_) | (with_reducible refine Ext.setRow ?_ (by first | exact LeS.le | exact LeS.add _ | (simp; done) | (simp; omega)) _) | (with_reducible refine Ext.setCell ?_ (by first | exact LeS.le | exact LeS.add _ | (simp; done) | (simp; omega)) _))))).mono ?_; rintro e w' ⟨rfl, rfl⟩
  go_wp2_with fail
  refine (kre _).mono ?_; rintro e w' ⟨vk, rfl, ⟨z1, rfl⟩, ok⟩
  obtain ⟨pk, ck, rfl, hkl, _⟩ := (ok.sl encI_length).openc
  have hlit : Own encI 3 1 ((w.alloc (.cells #[.int .i64 x.kind, .int .i64 x.src, .int .i64 x.dst, .int .i64 x.amt] 65)).alloc (.cells #[.bool false, .slice none 0 0, .slice none 0 0] 37)).heap.size (((w.alloc (.cells #[.int .i64 x.kind, .int .i64 x.src, .int .i64 x.dst, .int .i64 x.amt] 65)).alloc (.cells #[.bool false, .slice none 0 0, .slice none 0 0] 37)).alloc (.cells #[] 3)) (.slice (some ⟨w.heap.size + 1 + 1, 0, none⟩) 0 0) [] := Own.lit (by simp) (Nat.le_refl _) rfl rfl encI_length (Nat.zero_le _)
  have HL0 := Lib.hid (hlit.up z1.ext)
  have HA0 := Lib.hid (Apart.of_lt hlit ok (Nat.le_refl _)).symm
  have HK0 := Lib.hid (Own.lo ok (show ((w.alloc (.cells #[.int .i64 x.kind, .int .i64 x.src, .int .i64 x.dst, .int .i64 x.amt] 65)).alloc (.cells #[.bool false, .slice none 0 0, .slice none 0 0] 37)).heap.size ≤ _ by simp))
  clear ok kre hlit
  go_wp2_with fail
  go_loopw [14, 16, 17, 18] (fun s14 s16 _ _ wr => ∃ (k : Nat), s16 = .int .i64 k ∧ k ≤ x.rk.length ∧ Up ((w.alloc (.cells #[.int .i64 x.kind, .int .i64 x.src, .int .i64 x.dst, .int .i64 x.amt] 65)).alloc (.cells #[.bool false, .slice none 0 0, .slice none 0 0] 37)) wr ∧ Own encI 3 1 ((w.alloc (.cells #[.int .i64 x.kind, .int .i64 x.src, .int .i64 x.dst, .int .i64 x.amt] 65)).alloc (.cells #[.bool false, .slice none 0 0, .slice none 0 0] 37)).heap.size wr s14 (nowF s V n (x.rk.take k)) ∧ Own encI 3 1 ((w.alloc (.cells #[.int .i64 x.kind, .int .i64 x.src, .int .i64 x.dst, .int .i64 x.amt] 65)).alloc (.cells #[.bool false, .slice none 0 0, .slice none 0 0] 37)).heap.size wr (.slice pk x.rk.length ck) x.rk ∧ Apart (.slice pk x.rk.length ck) s14) (fun _ s16 _ _ _ => x.rk.length - (intOf s16).toNat)
  case atStart => exact ⟨0, rfl, Nat.zero_le _, (.of (by repeat (first | (with_reducible exact Ext.refl _) | (with_reducible refine Ext.up ?_ _) | (with_reducible refine Ext.alloc ?_ _) | (with_reducible refine Ext.drew ?_) | (with_reducible refine Ext.setRow ?_ (by first | exact LeS.le | exact LeS.add _ | (simp; done) | (simp; omega)) _) | (with_reducible refine Ext.setCell ?_ (by first | exact LeS.le | exact LeS.add _ | (simp; done) | (simp; omega)) _)))), HL0.out, HK0.out, HA0.out⟩
  case round =>
    obtain ⟨k, rfl, hk, ⟨z, rfl⟩, hown, hkey0, hap⟩ := hrel
    have HO := Lib.hid hown; have HK := Lib.hid hkey0; have HA := Lib.hid hap
    obtain ⟨_, _, e9, _, hck⟩ := (hkey0.sl encI_length).open
    cases e9
    have HCK := Lib.hid hck
    clear hown hkey0 hap hck HL0 HA0 HK0
    by_cases hlt : k < x.rk.length
    · obtain ⟨pf, cf, rfl, _, _⟩ := (HO.out.sl encI_length).openc
      have hfl := nowF_length s V n (x.rk.take k)
      rw [List.length_take, Nat.min_eq_left hk] at hfl
      obtain ⟨key, hkey⟩ := getElem?_some_of_lt hlt
      obtain ⟨g2, fo2, rfl, hbg2, hcc2⟩ := HCK.out k key hkey
      have y2 : z.val.cell? ⟨g2, fo2 + k, none⟩ = some (.int .i64 key) := by have := hcc2 0 _ rfl; simpa using this
      have Hsn := Lib.hid (nowF_snocY s V n hkey)
      have k0 : (0 : Int) ≤ (k : Int) := by omega
      have k1 : (k : Int) < x.rk.length := by omega
      have krk := kr key
      have hzs := z.ext.size
      clear hkey hcc2 HCK
      generalize nowF s V n (x.rk.take k) = L at *
      generalize readV (atK s key) V key n = R at *
      have Hfl := Lib.hid hfl
      have hfl2 : L.length ≤ 2 := by omega
      clear hfl
      go_wp2_with (first | (go_at_call 55; refine (krk _ (H0.out.up (by repeat (first | (with_reducible exact Ext.refl _) | (with_reducible refine Ext.up ?_ _) | (with_reducible refine Ext.alloc ?_ _) | (with_reducible refine Ext.drew ?_) | (with_reducible refine Ext.setRow ?_ (by first | exact LeS.le | exact LeS.add _ | (simp; done) | (simp; omega)) _) | (with_reducible refine Ext.setCell ?_ (by first | exact LeS.le | exact LeS.add _ | (simp; done) | (simp; omega)) _)))) (H2.out.up (by repeat (first | (with_reducible exact Ext.refl _) | (with_reducible refine Ext.up ?_ _) | (with_reducible refine Ext.alloc ?_ _) | (with_reducible refine Ext.drew ?_) | (with_reducible refine Ext.setRow ?_ (by first | exact LeS.le | exact LeS.add _ | (simp; done) | (simp; omega)) _) | (with_reducible refine Ext.setCell ?_ (by first | exact LeS.le | exact LeS.add _ | (simp; done) | (simp; omega)) _))))).mono ?_; rintro e w' ⟨rfl, rfl⟩) | (at_builtin; refine wpList_pushG fI rfl (.tmp 57) (.tmp 59) rfl encI encI_length ((w.alloc (.cells #[.int .i64 x.kind, .int .i64 x.src, .int .i64 x.dst, .int .i64 x.amt] 65)).alloc (.cells #[.bool false, .slice none 0 0, .slice none 0 0] 37)) (lo := ((w.alloc (.cells #[.int .i64 x.kind, .int .i64 x.src, .int .i64 x.dst, .int .i64 x.amt] 65)).alloc (.cells #[.bool false, .slice none 0 0, .slice none 0 0] 37)).heap.size) [R.2] L rfl HO.out (by repeat (first | (with_reducible exact Ext.refl _) | (with_reducible refine Ext.up ?_ _) | (with_reducible refine Ext.alloc ?_ _) | (with_reducible refine Ext.drew ?_) | (with_reducible refine Ext.setRow ?_ (by first | exact LeS.le | exact LeS.add _ | (simp; done) | (simp; omega)) _) | (with_reducible refine Ext.setCell ?_ (by first | exact LeS.le | exact LeS.add _ | (simp; done) | (simp; omega)) _))) (Nat.le_refl _) hzs rfl rfl (by go_simp) rfl (oneIs _) (by simp; omega) (by simp; omega) ?_; intro v7 z7 o7 g7 b7))
      have O7 := Lib.hid o7
      have K7 := Lib.hid (Own.keep (HK.out.alloc (o := .cells #[.int .i64 R.2] 3)) g7 HA.out)
      have A7 := Lib.hid (Apart.grown (HK.out.alloc (o := .cells #[.int .i64 R.2] 3)) HA.out (Nat.le_refl _) b7)
      clear o7 g7 b7
      go_wp2_with fail
      go_roundw
      case rel => exact ⟨k + 1, by go_num, by omega, (.of (by repeat (first | (with_reducible exact Ext.refl _) | (with_reducible refine Ext.up ?_ _) | (with_reducible refine Ext.alloc ?_ _) | (with_reducible refine Ext.drew ?_) | (with_reducible refine Ext.setRow ?_ (by first | exact LeS.le | exact LeS.add _ | (simp; done) | (simp; omega)) _) | (with_reducible refine Ext.setCell ?_ (by first | exact LeS.le | exact LeS.add _ | (simp; done) | (simp; omega)) _)))), by rw [Hsn.out]; exact O7.out, K7.out, A7.out⟩
      case measure => simp [intOf] <;> omega
    · obtain rfl : k = x.rk.length := by omega
      rw [List.take_length] at HO
      obtain ⟨pf, cf, rfl, _, _⟩ := (HO.out.sl encI_length).openc
      have hfl2 := nowF_length s V n x.rk
      generalize hLE : nowF s V n x.rk = L at HO hfl2 ⊢
      generalize hEE : runE x (readV (atK s x.src) V x.src n).1 (readV (atK s x.dst) V x.dst n).1 = E at krun
      have HLE := Lib.hid hLE; have HEE := Lib.hid (show tryE s V n x = E from hEE); clear hLE hEE
      generalize readV (atK s x.src) V x.src n = R1 at krun ⊢
      generalize readV (atK s x.dst) V x.dst n = R2 at krun ⊢
      have Hfl2 := Lib.hid hfl2
      have hzs := z.ext.size
      simp at hzs
      clear hfl2 HCK kr
      go_wp2_with fail
      refine (krun _).mono ?_; rintro ed w' ⟨vr, vw, rfl, ⟨z8, rfl⟩, o1, o2, hap⟩
      obtain ⟨y1, f1, rfl, _, _⟩ := (o1.sl Ent.enc_length).openc
      obtain ⟨y2, f2, rfl, _, _⟩ := (o2.sl Ent.enc_length).openc
      have AF1 := Lib.hid (Apart.of_lt HO.out o1 (Nat.le_refl _))
      have AF2 := Lib.hid (Apart.of_lt HO.out o2 (Nat.le_refl _))
      have HP := Lib.hid hap
      have O1 := Lib.hid (Own.lo o1 (show w.heap.size + 1 + 1 ≤ _ by omega)); have O2 := Lib.hid (Own.lo o2 (show w.heap.size + 1 + 1 ≤ _ by omega))
      have OF := Lib.hid (Own.lo HO.out (show w.heap.size + 1 + 1 ≤ _ by simp))
      clear o1 o2 hap HO krun
      go_wp2_with fail
      refine bodyPost_ret (v := .tuple #[.agg #[.bool E.d, .slice y1 E.r.length f1, .slice y2 E.w.length f2], .slice pf L.length cf]) (by simp [results, Try.results82, go_sem]) rfl ?_
      rw [HEE.out, HLE.out]
      refine ⟨_, _, _, rfl, (.of (by repeat (first | (with_reducible exact Ext.refl _) | (with_reducible refine Ext.up ?_ _) | (with_reducible refine Ext.alloc ?_ _) | (with_reducible refine Ext.drew ?_) | (with_reducible refine Ext.setRow ?_ (by first | exact LeS.le | exact LeS.add _ | (simp; done) | (simp; omega)) _) | (with_reducible refine Ext.setCell ?_ (by first | exact LeS.le | exact LeS.add _ | (simp; done) | (simp; omega)) _)))), Own.lo (lo := w.heap.size + 1 + 1) ?_ (by omega), Own.lo (lo := w.heap.size + 1 + 1) ?_ (by omega), Own.lo (lo := w.heap.size + 1 + 1) ?_ (by omega), HP.out, AF1.out, AF2.out⟩
      · repeat (first | (with_reducible exact O1.out) | (with_reducible refine Own.setOld ?_ _ _ (by dsimp only; omega)))
      · repeat (first | (with_reducible exact O2.out) | (with_reducible refine Own.setOld ?_ _ _ (by dsimp only; omega)))
      · repeat (first | (with_reducible exact OF.out) | (with_reducible refine Own.setOld ?_ _ _ (by dsimp only; omega)) | (with_reducible refine Own.up ?_ (Extd.ext _)))
end Go.Proofs.Ytnknamddonjnjaa
namespace Go.Proofs.Ytnknamddonjnjaa
open Go Go.RowKit Go.Proofs

/-- An action does what it does by the values of the keys that it reads. -/
theorem runE_at {x : Actn} {g g' : Int → Int} (h : ∀ k ∈ x.rk, g k = g' k) : runE x (g x.src) (g x.dst) = runE x (g' x.src) (g' x.dst) := by
  by_cases h1 : x.kind = 1
  · have e : x.rk = [] := by unfold Actn.rk; rw [if_pos h1]
    simp [runE, Actn.don, Actn.rds, Actn.wrs, h1, e]
  by_cases h2 : x.kind = 3 ∨ x.kind = 6 ∨ x.src = x.dst
  · have e : x.rk = [x.src] := by unfold Actn.rk; rw [if_neg h1, if_pos h2]
    have hs := h x.src (by simp [e])
    rcases h2 with h2 | h2 | h2
    · simp [runE, Actn.don, Actn.rds, Actn.wrs, h2, e, hs]
    · simp [runE, Actn.don, Actn.rds, Actn.wrs, h2, e, hs]
    · rw [← h2, hs]
  · have e : x.rk = [x.src, x.dst] := by unfold Actn.rk; rw [if_neg h1, if_neg h2]
    rw [h x.src (by simp [e]), h x.dst (by simp [e])]
def rdF (s : List Ent) (V : List Ver) (n : Int) (k : Int) : Int := (readV (atK s k) V k n).1
theorem tryE_r (s : List Ent) (V : List Ver) (n : Int) (x : Actn) : (tryE s V n x).r = nowL s V n x.rk := by
  show x.rds _ _ = _
  unfold Actn.rds nowL
  apply List.map_congr_left
  intro k hk
  by_cases h1 : k = x.src
  · rw [if_pos h1, h1]
  · rw [if_neg h1]
    have : k = x.dst := by
      unfold Actn.rk at hk
      split at hk
      · cases hk
      · split at hk
        · simp only [List.mem_cons, List.not_mem_nil, or_false] at hk; exact absurd hk h1
        · simp only [List.mem_cons, List.not_mem_nil, or_false] at hk; rcases hk with e | e; exact absurd e h1; exact e
    rw [this]
theorem now_get {x : Actn} (hx : x.ok = true) (s : List Ent) (V : List Ver) (n : Int) : ∀ k ∈ x.rk, (vsets zeros (nowL s V n x.rk)).getD k.toNat 0 = rdF s V n k := by
  intro k hk
  have hin := Actn.rk_in hx
  have hb := hin k hk
  have := vsets_fun (fun k => (readV (atK s k) V k n).1) x.rk zeros k.toNat (fun k hk => (hin k hk).1) (by rw [zeros_length]; omega)
  rw [show ((k.toNat : Nat) : Int) = k from by omega, if_pos hk] at this
  rw [List.getD_eq_getElem?_getD, show nowL s V n x.rk = x.rk.map fun k => (⟨k, (fun k => (readV (atK s k) V k n).1) k⟩ : Ent) from rfl, this]; rfl
/-- What is tried is what is run with the values that are read. -/
theorem tryE_run {x : Actn} (hx : x.ok = true) (s : List Ent) (V : List Ver) (n : Int) : runV (vsets zeros (tryE s V n x).r) x = tryE s V n x := by
  rw [tryE_r]
  exact runE_at (g := fun k => (vsets zeros (nowL s V n x.rk)).getD k.toNat 0) (g' := rdF s V n) (now_get hx s V n)
/-- A slot that was tried is right. -/
theorem try_ok {x : Actn} (hx : x.ok = true) {s : List Ent} (hs : entsOk 1 s = true) {V : List Ver} (hV : versOk V = true) {n : Nat} {m : Int} (h0 : 1 ≤ m) (h1 : m ≤ 1000) : sltOk x n ⟨1, m, nowF s V n x.rk, tryE s V n x⟩ = true := by
  unfold sltOk
  rw [if_neg (show ¬ ((1 : Int) = 0) by decide)]
  simp only [sltTry, Bool.and_eq_true, inR_iff, decide_eq_true_eq]
  refine ⟨by omega, ⟨h0, h1⟩, ?_, nowF_length _ _ _ _, ?_, ?_⟩
  · rw [tryE_r]; simp [nowL]
  · rw [upTo_iff]
    intro i hi
    rw [tryE_r] at hi ⊢
    have hik : i < x.rk.length := by simpa [nowL] using hi
    obtain ⟨k, hk⟩ := getElem?_some_of_lt hik
    rw [rdAt_eq (x := ⟨k, rdF s V n k⟩) (k := k) (q := (readV (atK s k) V k n).2) (by simp [nowL, hk, rdF]) hk (by simp [nowF, hk])]
    have := readV_inv (key := k) hV (show (0 : Int) ≤ (n : Int) by omega) (atK_in hs (by decide) k)
    simp only [Bool.and_eq_true, beq_self_eq_true, inR_iff, true_and]
    unfold rdF
    omega
  · rw [sameEf_iff]; exact tryE_run hx s V n
end Go.Proofs.Ytnknamddonjnjaa
namespace Go.Proofs.Ytnknamddonjnjaa
open Go Go.RowKit Go.Proofs

/-- What every step keeps. -/
structure Eng.Inv (e : Eng) : Prop where
  base : entsOk 1 e.base = true
  acts : actsOk e.acts = true
  len : e.sl.length = e.acts.length
  slots : upTo (slAt e) e.sl.length = true
  vers : versE (e.sl.map (·.e)) e.sl.length = e.vers
theorem Eng.Inv.of {e : Eng} (h : e.ok = true) : e.Inv := by
  have hv := Eng.vers_eq h
  unfold Eng.ok at h
  simp only [Bool.and_eq_true, decide_eq_true_eq] at h
  exact ⟨h.1, h.2.1, h.2.2.1, h.2.2.2.1, hv⟩
theorem Eng.Inv.len10 {e : Eng} (h : e.Inv) : e.sl.length ≤ 10 := by rw [h.len]; exact actsOk_len h.acts
theorem Eng.Inv.w {e : Eng} (h : e.Inv) : ∀ x ∈ e.sl.map (·.e), entsOk 0 x.w = true := by
  have := slots_w h.acts h.len (Nat.le_refl _) h.slots
  rwa [List.take_of_length_le (by simp)] at this
theorem Eng.Inv.vok {e : Eng} (h : e.Inv) : versOk e.vers = true ∧ e.vers.length ≤ 320 := by
  have := slots_vers h.acts h.len (Nat.le_refl _) h.slots
  rw [h.vers] at this
  have h10 := h.len10
  exact ⟨this.1, by omega⟩
theorem Eng.Inv.slot {e : Eng} (h : e.Inv) {n : Nat} {t : Slt} {x : Actn} (ht : e.sl[n]? = some t) (hx : e.acts[n]? = some x) : sltOk x n t = true := by
  have := upTo_iff.1 h.slots n (List.getElem?_eq_some_iff.1 ht).1
  rwa [slAt_eq ht hx] at this
theorem Eng.Inv.act {e : Eng} (h : e.Inv) {n : Nat} {x : Actn} (hx : e.acts[n]? = some x) : x.ok = true := actsOk_at h.acts hx
/-- A slot put in place. -/
theorem Eng.Inv.put {e : Eng} (h : e.Inv) {n : Nat} {x : Actn} (hn : n < e.sl.length) (hx : e.acts[n]? = some x) {t : Slt} (ht : sltOk x n t = true) : Eng.Inv ⟨e.base, e.acts, putV e.vers n t.e.w, e.sl.set n t⟩ := by
  refine ⟨h.base, h.acts, by rw [List.length_set]; exact h.len, ?_, ?_⟩
  · rw [upTo_iff]
    intro k hk
    simp only [List.length_set] at hk
    by_cases he : k = n
    · subst he
      rw [slAt_eq (e := ⟨e.base, e.acts, putV e.vers k t.e.w, e.sl.set k t⟩) (List.getElem?_set_self hn) hx]; exact ht
    · have := upTo_iff.1 h.slots k hk
      unfold slAt at this ⊢
      simp only [List.getElem?_set_ne (show n ≠ k by omega)]
      exact this
  · show versE ((e.sl.set n t).map (·.e)) (e.sl.set n t).length = _
    rw [List.map_set, List.length_set]
    have := versE_set h.w (by simpa using h.len10) (n := n) (e := t.e) (by simpa using hn) (sltOk_w (h.act hx) ht fun _ => trivial)
    rw [List.length_map, h.vers] at this
    exact this
theorem Eng.Inv.tried {e : Eng} (h : e.Inv) {n : Nat} {t : Slt} {x : Actn} (ht : e.sl[n]? = some t) (hx : e.acts[n]? = some x) (h0 : t.st = 0) (h1 : t.tr ≠ 1000) :
    Eng.Inv ⟨e.base, e.acts, putV e.vers n (tryE e.base e.vers n x).w, e.sl.set n ⟨1, t.tr + 1, nowF e.base e.vers n x.rk, tryE e.base e.vers n x⟩⟩ := by
  have hs := h.slot ht hx
  unfold sltOk at hs
  rw [if_pos h0] at hs
  simp only [sltNew, Bool.and_eq_true, inR_iff] at hs
  exact h.put (List.getElem?_eq_some_iff.1 ht).1 hx (t := ⟨1, t.tr + 1, nowF e.base e.vers n x.rk, tryE e.base e.vers n x⟩) (try_ok (h.act hx) h.base h.vok.1 (by omega) (by omega))
theorem Eng.Inv.dropped {e : Eng} (h : e.Inv) {n : Nat} {t : Slt} {x : Actn} (ht : e.sl[n]? = some t) (hx : e.acts[n]? = some x) (h0 : t.st = 1) :
    Eng.Inv ⟨e.base, e.acts, dropV e.vers n, e.sl.set n ⟨0, t.tr, [], ⟨false, [], []⟩⟩⟩ := by
  have hs := h.slot ht hx
  unfold sltOk at hs
  rw [if_neg (by omega)] at hs
  simp only [sltTry, Bool.and_eq_true, inR_iff] at hs
  exact h.put (List.getElem?_eq_some_iff.1 ht).1 hx (t := ⟨0, t.tr, [], ⟨false, [], []⟩⟩) (by
    unfold sltOk
    rw [if_pos rfl]
    simp only [sltNew, Bool.and_eq_true, inR_iff, decide_eq_true_eq]
    exact ⟨by omega, rfl, (sameEf_iff _ _).2 rfl⟩)
theorem Eng.Inv.checked {e : Eng} (h : e.Inv) {n : Nat} {t : Slt} {x : Actn} (ht : e.sl[n]? = some t) (hx : e.acts[n]? = some x) (h0 : t.st = 1) :
    Eng.Inv ⟨e.base, e.acts, e.vers, e.sl.set n ⟨2, t.tr, t.f, t.e⟩⟩ := by
  have hs := h.slot ht hx
  have hn := (List.getElem?_eq_some_iff.1 ht).1
  have h2 : sltOk x n ⟨2, t.tr, t.f, t.e⟩ = true := by
    unfold sltOk at hs ⊢
    rw [if_neg (by omega)] at hs
    rw [if_neg (show ¬ ((2 : Int) = 0) by decide)]
    simp only [sltTry, Bool.and_eq_true, inR_iff] at hs ⊢
    exact ⟨by omega, hs.2⟩
  have hp := h.put hn hx h2
  have hv : putV e.vers n t.e.w = e.vers := by
    have a := hp.vers
    simp only [List.map_set, List.length_set] at a
    rw [← a]
    have : (e.sl.map (·.e)).set n t.e = e.sl.map (·.e) := by
      have hg : (e.sl.map (·.e))[n]? = some t.e := by rw [List.getElem?_map, ht]; rfl
      obtain ⟨hl, hg⟩ := List.getElem?_eq_some_iff.1 hg
      rw [← hg]; exact List.set_getElem_self hl
    rw [this, h.vers]
  rw [show (⟨2, t.tr, t.f, t.e⟩ : Slt).e.w = t.e.w from rfl, hv] at hp
  exact hp
end Go.Proofs.Ytnknamddonjnjaa
namespace Go.Proofs.Ytnknamddonjnjaa
open Go Go.RowKit Go.Proofs

def totS (l : List Slt) : Nat := (l.map fun t => t.f.length + t.e.r.length + t.e.w.length).sum
theorem totS_snoc {l : List Slt} {k : Nat} {t : Slt} (h : l[k]? = some t) : totS (l.take (k + 1)) = totS (l.take k) + (t.f.length + t.e.r.length + t.e.w.length) := by
  rw [List.take_add_one, h]; simp [totS]
theorem totS_mem {l : List Slt} {t : Slt} (h : t ∈ l) : t.f.length + t.e.r.length + t.e.w.length ≤ totS l := by
  unfold totS
  induction l with
  | nil => cases h
  | cons y l ih =>
    rw [List.map_cons, List.sum_cons]
    rcases List.mem_cons.1 h with rfl | h
    · omega
    · have := ih h; omega
theorem szW {n : Int} {len : Nat} : szOf n len < 0 ∨ (0 ≤ szOf n len ∧ szOf n len = n - len) := by unfold szOf; split <;> omega
theorem fSlt : AppFacts Try.prog 26 39 6 96 := by
  have h : (Try.prog.info? 39).map (fun i => (i.zero, i.size, i.bytes)) = some (some (.agg #[.int .i64 0, .int .i64 0, .slice none 0 0, .bool false, .slice none 0 0, .slice none 0 0]), 6, 96) := by kernel_rfl
  obtain ⟨i0, hi, hz0, hz1, hz2⟩ := info_parts h
  exact ⟨Try.underlying26, ⟨i0, _, hi, hz0, hz1, hz2, rfl⟩, by decide⟩
/-- Slots that lie apart from all that is older. -/
def OSl (lo : Nat) (w : World) (v : Value) (l : List Slt) : Prop := ∃ ts : List TS, l = ts.map TS.core ∧ Own TS.enc 39 6 lo w v ts ∧ ∀ x ∈ ts, Own encI 3 1 lo w x.vf x.f ∧ Own Ent.enc 59 2 lo w x.vr x.r ∧ Own Ent.enc 59 2 lo w x.vw x.w
theorem OSl.ss {lo : Nat} {w : World} {v : Value} {l : List Slt} (h : OSl lo w v l) : SS w v l := by
  obtain ⟨ts, h1, h2, h3⟩ := h
  exact ⟨ts, h1, h2.sl TS.enc_length, fun x hx => ⟨(h3 x hx).1.sl encI_length, (h3 x hx).2.1.sl Ent.enc_length, (h3 x hx).2.2.sl Ent.enc_length⟩⟩
theorem OSl.up {lo : Nat} {w : World} {v : Value} {l : List Slt} (h : OSl lo w v l) {w' : World} (hE : Ext w w') : OSl lo w' v l := by
  obtain ⟨ts, h1, h2, h3⟩ := h
  exact ⟨ts, h1, h2.up hE, fun x hx => ⟨(h3 x hx).1.up hE, (h3 x hx).2.1.up hE, (h3 x hx).2.2.up hE⟩⟩
theorem OSl.setOld {lo : Nat} {w : World} {v : Value} {l : List Slt} (h : OSl lo w v l) (a : Addr) (u : Value) (hlt : a.block < lo) : OSl lo (w.setCell a u) v l := by
  obtain ⟨ts, h1, h2, h3⟩ := h
  exact ⟨ts, h1, h2.setOld a u hlt, fun x hx => ⟨(h3 x hx).1.setOld a u hlt, (h3 x hx).2.1.setOld a u hlt, (h3 x hx).2.2.setOld a u hlt⟩⟩
theorem OSl.lo {lo lo' : Nat} {w : World} {v : Value} {l : List Slt} (h : OSl lo w v l) (hlo : lo' ≤ lo) : OSl lo' w v l := by
  obtain ⟨ts, h1, h2, h3⟩ := h
  exact ⟨ts, h1, h2.lo hlo, fun x hx => ⟨(h3 x hx).1.lo hlo, (h3 x hx).2.1.lo hlo, (h3 x hx).2.2.lo hlo⟩⟩
end Go.Proofs.Ytnknamddonjnjaa
namespace Go.Proofs.Ytnknamddonjnjaa
open Go Go.RowKit Go.Proofs

def TS.parts (x : TS) : List Value := [x.vf, x.vr, x.vw]
/-- What a slot's own slices are in memory. -/
def TS.own (lo : Nat) (w : World) (x : TS) : Prop := Own encI 3 1 lo w x.vf x.f ∧ Own Ent.enc 59 2 lo w x.vr x.r ∧ Own Ent.enc 59 2 lo w x.vw x.w
/-- Slots whose slices all lie apart from one another and from the row. -/
structure OSA (lo : Nat) (w : World) (v : Value) (ts : List TS) : Prop where
  row : Own TS.enc 39 6 lo w v ts
  deep : ∀ x ∈ ts, x.own lo w
  out : ∀ x ∈ ts, ∀ u ∈ x.parts, Apart u v
  pw : (ts.flatMap TS.parts).Pairwise Apart
theorem TS.own.up {lo : Nat} {w w' : World} {x : TS} (h : x.own lo w) (hE : Ext w w') : x.own lo w' := ⟨h.1.up hE, h.2.1.up hE, h.2.2.up hE⟩
theorem TS.own.setOld {lo : Nat} {w : World} {x : TS} (h : x.own lo w) (a : Addr) (u : Value) (hlt : a.block < lo) : x.own lo (w.setCell a u) := ⟨h.1.setOld a u hlt, h.2.1.setOld a u hlt, h.2.2.setOld a u hlt⟩
theorem TS.own.lo {lo lo' : Nat} {w : World} {x : TS} (h : x.own lo w) (hlo : lo' ≤ lo) : x.own lo' w := ⟨h.1.lo hlo, h.2.1.lo hlo, h.2.2.lo hlo⟩
theorem TS.own.kept {lo : Nat} {w w' : World} {v : Value} {x : TS} (h : x.own lo w) (hg : w.grownBy w' v.ownBlock) (ha : ∀ u ∈ x.parts, Apart u v) : x.own lo w' :=
  ⟨h.1.keep hg (ha _ (by simp [TS.parts])), h.2.1.keep hg (ha _ (by simp [TS.parts])), h.2.2.keep hg (ha _ (by simp [TS.parts]))⟩
theorem TS.own.grown {lo : Nat} {w : World} {v v' : Value} {x : TS} (h : x.own lo w) (ha : ∀ u ∈ x.parts, Apart u v) {n : Nat} (hn : w.heap.size ≤ n) (hb : v'.ownBlock = v.ownBlock ∨ v'.ownBlock = some n) : ∀ u ∈ x.parts, Apart u v' := by
  intro u hu
  have hu' := hu
  simp only [TS.parts, List.mem_cons, List.not_mem_nil, or_false] at hu'
  rcases hu' with rfl | rfl | rfl
  · exact Apart.grown h.1 (ha _ hu) hn hb
  · exact Apart.grown h.2.1 (ha _ hu) hn hb
  · exact Apart.grown h.2.2 (ha _ hu) hn hb
theorem OSA.ss {lo : Nat} {w : World} {v : Value} {ts : List TS} (h : OSA lo w v ts) : SS w v (ts.map TS.core) :=
  ⟨ts, rfl, h.row.sl TS.enc_length, fun x hx => ⟨(h.deep x hx).1.sl encI_length, (h.deep x hx).2.1.sl Ent.enc_length, (h.deep x hx).2.2.sl Ent.enc_length⟩⟩
theorem OSA.up {lo : Nat} {w w' : World} {v : Value} {ts : List TS} (h : OSA lo w v ts) (hE : Ext w w') : OSA lo w' v ts := ⟨h.row.up hE, fun x hx => (h.deep x hx).up hE, h.out, h.pw⟩
theorem OSA.setOld {lo : Nat} {w : World} {v : Value} {ts : List TS} (h : OSA lo w v ts) (a : Addr) (u : Value) (hlt : a.block < lo) : OSA lo (w.setCell a u) v ts := ⟨h.row.setOld a u hlt, fun x hx => (h.deep x hx).setOld a u hlt, h.out, h.pw⟩
theorem OSA.lo {lo lo' : Nat} {w : World} {v : Value} {ts : List TS} (h : OSA lo w v ts) (hlo : lo' ≤ lo) : OSA lo' w v ts := ⟨h.row.lo hlo, fun x hx => (h.deep x hx).lo hlo, h.out, h.pw⟩
theorem OSA.nil (lo : Nat) (w : World) : OSA lo w (.slice none 0 0) [] := ⟨Own.nil _ _ _ _ _, by simp, by simp, List.Pairwise.nil⟩
/-- A slot more. -/
theorem OSA.snoc {lo : Nat} {W1 W2 : World} {o : Obj} {v v' : Value} {ts : List TS} {x : TS} (h : OSA lo W1 v ts) (hg : (W1.alloc o).grownBy W2 v.ownBlock) (hb : v'.ownBlock = v.ownBlock ∨ v'.ownBlock = some (W1.alloc o).heap.size)
    (ho : Own TS.enc 39 6 lo W2 v' (ts ++ [x])) (hx : x.own lo (W1.alloc o)) (hxv : ∀ u ∈ x.parts, Apart u v) (hxx : x.parts.Pairwise Apart) (hxt : ∀ y ∈ ts, ∀ u ∈ y.parts, ∀ u' ∈ x.parts, Apart u u') : OSA lo W2 v' (ts ++ [x]) := by
  have hE : Ext W1 (W1.alloc o) := (Ext.refl _).alloc _
  refine ⟨ho, fun y hy => ?_, fun y hy => ?_, ?_⟩
  · rcases List.mem_append.1 hy with hy | hy
    · exact ((h.deep y hy).up hE).kept hg (h.out y hy)
    · simp only [List.mem_singleton] at hy; subst hy
      exact hx.kept hg hxv
  · rcases List.mem_append.1 hy with hy | hy
    · exact ((h.deep y hy).up hE).grown (h.out y hy) (Nat.le_refl _) hb
    · simp only [List.mem_singleton] at hy; subst hy
      exact hx.grown hxv (Nat.le_refl _) hb
  · rw [List.flatMap_append, List.pairwise_append]
    refine ⟨h.pw, by simpa using hxx, fun u hu u' hu' => ?_⟩
    obtain ⟨y, hy, hu⟩ := List.mem_flatMap.1 hu
    exact hxt y hy u hu u' (by simpa using hu')
/-- An engine that lies apart from what is older. -/
structure OEG (lo : Nat) (w : World) (v0 v1 v2 v3 : Value) (base : List Ent) (acts : List Actn) (vers : List Ver) (ts : List TS) : Prop where
  base : Own Ent.enc 59 2 lo w v0 base
  acts : Own Actn.enc 65 4 lo w v1 acts
  vers : Own Ver.enc 32 3 lo w v2 vers
  sl : OSA lo w v3 ts
theorem OEG.sg {lo : Nat} {w : World} {v0 v1 v2 v3 : Value} {base : List Ent} {acts : List Actn} {vers : List Ver} {ts : List TS} (h : OEG lo w v0 v1 v2 v3 base acts vers ts) : SG w v0 v1 v2 v3 ⟨base, acts, vers, ts.map TS.core⟩ :=
  ⟨h.base.sl Ent.enc_length, h.acts.sl Actn.enc_length, h.vers.sl Ver.enc_length, h.sl.ss⟩
theorem OEG.up {lo : Nat} {w w' : World} {v0 v1 v2 v3 : Value} {base : List Ent} {acts : List Actn} {vers : List Ver} {ts : List TS} (h : OEG lo w v0 v1 v2 v3 base acts vers ts) (hE : Ext w w') : OEG lo w' v0 v1 v2 v3 base acts vers ts := ⟨h.base.up hE, h.acts.up hE, h.vers.up hE, h.sl.up hE⟩
theorem OEG.setOld {lo : Nat} {w : World} {v0 v1 v2 v3 : Value} {base : List Ent} {acts : List Actn} {vers : List Ver} {ts : List TS} (h : OEG lo w v0 v1 v2 v3 base acts vers ts) (a : Addr) (u : Value) (hlt : a.block < lo) : OEG lo (w.setCell a u) v0 v1 v2 v3 base acts vers ts := ⟨h.base.setOld a u hlt, h.acts.setOld a u hlt, h.vers.setOld a u hlt, h.sl.setOld a u hlt⟩
theorem OEG.lo {lo lo' : Nat} {w : World} {v0 v1 v2 v3 : Value} {base : List Ent} {acts : List Actn} {vers : List Ver} {ts : List TS} (h : OEG lo w v0 v1 v2 v3 base acts vers ts) (hlo : lo' ≤ lo) : OEG lo' w v0 v1 v2 v3 base acts vers ts := ⟨h.base.lo hlo, h.acts.lo hlo, h.vers.lo hlo, h.sl.lo hlo⟩
end Go.Proofs.Ytnknamddonjnjaa
