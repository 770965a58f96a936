/- Walks: orders of actions by their levels: the program's side, with slices.SortFunc by its contract of the kit's shelf. Walks: orders of actions by their levels: the program's function, and the law FnExactLevelOrder. Plain ground: append of a whole slice in a region that draws its order; parts of slices of the call's own. Walks: versions that are put, the reference's side. -/
import Derived.Test.YtnknamddonjnjaaGEoVTop17
import Derived.Sort.WalkB12
import Derived.Test.YtnknamddonjnjaaGEoVTop11
import Derived.Test.YtnknamddonjnjaaGEoVTop02
import Derived.Test.YtnknamddonjnjaaGEoVTop09
import Derived.Deep.RegionLaw
set_option linter.unusedSimpArgs false
set_option linter.unusedVariables false
namespace Go.Proofs.Ytnknamddonjnjaa
open Go Go.RowKit Go.Proofs Go.Sort

theorem take_putL {α : Type} [Inhabited α] (enc : α → Value) (cur : Array Value) (d : Array α) (h : d.size ≤ cur.size) : (putCells enc 0 d cur).toList.take d.size = d.toList.map enc := by
  apply List.ext_getElem?
  intro j
  by_cases hj : j < d.size
  · rw [List.getElem?_take_of_lt hj, Array.getElem?_toList]
    simp [putCells, hj, show j < cur.size by omega]
  · rw [List.getElem?_take_eq_none (by omega), List.getElem?_eq_none (by simp; omega)]
/-- A row of the call's own with other cells. -/
theorem ownsRow_putL {α : Type} [Inhabited α] (enc : α → Value) {w : World} {base e sz n : Nat} {g m cap : Nat} {xs : List Value} (os : Array Obj) (d : Array α) (h : w.ownsRow base e sz (.slice (some ⟨g, 0, none⟩) m cap) m xs) (hd : d.size = m * sz) :
    (grow (putRow enc (Sort.ahead w n) g 0 d) os).ownsRow base e sz (.slice (some ⟨g, 0, none⟩) m cap) m (d.toList.map enc) := by
  rcases h.2 with ⟨h0, _⟩ | ⟨g', cap', cur, hv, hbase, hb, h1, h2, h3, _⟩
  · cases h0
  · cases hv
    have hg : g < w.heap.size := (Array.getElem?_eq_some_iff.1 hb).1
    refine ⟨by simp [hd], .inr ⟨g, cap, putCells enc 0 d cur, rfl, hbase, ?_, h1, h2, by simp [putCells, h3], ?_⟩⟩
    · rw [heap_grow_old _ _ (by simpa using hg)]
      simp [putRow, mapBlock, Sort.ahead, Array.getElem?_modify, hb, onCells]
    · rw [← hd]
      refine take_putL enc cur d ?_
      rw [h3, hd]; exact Nat.mul_le_mul_right _ h1
theorem grownBy_putL {α : Type} [Inhabited α] (enc : α → Value) {w : World} {g n : Nat} {os : Array Obj} (d : Array α) : w.grownBy (grow (putRow enc (Sort.ahead w n) g 0 d) os) (some g) := by
  refine ⟨rfl, rfl, rfl, by simp, fun k hk hne => ?_⟩
  rw [heap_grow_old _ _ (by simpa using hk)]
  have : g ≠ k := fun e => hne (by rw [e])
  simp [putRow, mapBlock, Sort.ahead, Array.getElem?_modify, this]
/-- w' is W with draws made and blocks laid. -/
def GR (W w' : World) : Prop := ∃ q os', w' = grow (W.drewN q) os'
theorem GR.refl (W : World) : GR W W := ⟨0, #[], by rw [grow_empty]; rfl⟩
theorem GR.drew {W w' : World} (h : GR W w') : GR W w'.drew := by
  obtain ⟨q, os, rfl⟩ := h
  exact ⟨q + 1, os, rfl⟩
theorem GR.alloc {W w' : World} (h : GR W w') (o : Obj) : GR W (w'.alloc o) := by
  obtain ⟨q, os, rfl⟩ := h
  exact ⟨q, os ++ #[o], by rw [alloc_eq_grow, grow_grow]⟩
theorem GR.ext {W w' : World} (h : GR W w') : Ext W w' := by
  obtain ⟨q, os, rfl⟩ := h
  exact ⟨rfl, rfl, rfl, by simp [grow, World.drewN], fun k hk => by rw [heap_grow_old _ _ (by simpa [World.drewN] using hk)]; rfl⟩
theorem S_of_gr {W w' : World} (h : GR W w') : (∀ n i, ∀ [LtS n W], w'.cell? ⟨n, i, none⟩ = W.cell? ⟨n, i, none⟩) ∧ GR W w' := ⟨(S_of_ext h.ext).1, h⟩
def cmpL (lv : List Int) (x y : Int) : Int := or2 (lvl0 lv x - lvl0 lv y) (y - x)
theorem cmpL_lt (lv : List Int) (x y : Int) : cmpL lv x y < 0 ↔ lvLt lv x y := by
  unfold cmpL or2 lvLt
  split <;> omega
theorem extract_all {α : Type} (d : Array α) {m : Nat} (h : d.size = m) : d.extract 0 m = d := by subst h; simp
end Go.Proofs.Ytnknamddonjnjaa
namespace Go.Proofs.Ytnknamddonjnjaa
open Go Go.RowKit Go.Proofs

theorem Own.ne' {α : Type} {enc : α → List Value} {e sz lo : Nat} {w : World} {v : Value} {l : List α} (h : Own enc e sz lo w v l) (hne : l ≠ []) : ∃ g c, v = .slice (some ⟨g, 0, none⟩) l.length c := by
  rcases h.2 with ⟨_, hn⟩ | ⟨g, cap, cur, hv, _⟩
  · exact absurd (List.eq_nil_of_length_eq_zero hn) hne
  · exact ⟨g, cap, hv⟩
end Go.Proofs.Ytnknamddonjnjaa
namespace Go.Proofs.Ytnknamddonjnjaa
open Go Go.RowKit Go.Proofs

theorem step_catW {P : Program} {t e sz bytes : Nat} (F : AppFacts P t e sz bytes) {ops : Array Oper} {o : Oper} {a : Act} {K : Act → World → Prop} {Q : Exit → Act → World → Prop} {E : Prop} (hw : Region.wanted o (yielded ops a.tmps) = true) (s x : Operand)
    (ho : o.op = .call { callee := .builtin .append, args := #[s, x], argTypes := #[t, t] }) {α : Type} (enc : α → List Value) (he : ∀ x, (enc x).length = sz) (Wb : World) {lo : Nat} {w : World} (ys : List α) (l : List α) {v vx : Value} (hs : a.eval s = v)
    (hx : a.eval x = vx) (hown : Own enc e sz lo w v l) (hE : Ext Wb w) (hlo : Wb.heap.size ≤ lo) (hlo' : lo ≤ w.heap.size) (hys : SL (RF enc) sz w vx ys)
    (h1 : ∀ u ∈ ys.flatMap enc, u.oneCell' = true) (hb : (l.length + ys.length) * bytes ≤ 140737488355328) (hb' : l.length + ys.length ≤ 9223372036854775807)
    (h : ∀ v' (z1 : Extd Wb), Own enc e sz lo z1.val v' (l ++ ys) → w.grownBy z1.val v.ownBlock → (v'.ownBlock = v.ownBlock ∨ v'.ownBlock = some w.heap.size) → K (a.put o.dst v') z1.val) :
    if Region.wanted o (yielded ops a.tmps) = true then Oper.wp P o a w K Q else E := by
  rw [if_pos hw]
  obtain ⟨i, z, hi, hz, hsize, hby, hzs⟩ := F.info
  have hown' : w.ownsRow lo e sz v l.length (l.flatMap enc) := hown
  obtain ⟨p, c, rfl, _, hc⟩ := hys.open
  rcases p with _ | ad
  · obtain rfl : ys = [] := by
      cases ys with
      | nil => rfl
      | cons y ys => obtain ⟨_, _, e2, _⟩ := hc 0 y rfl; cases e2
    have hrun := run_append_none (P := P) (w := w) lo t o.type e i sz F.und hi v l.length c _ hown'
    unfold Oper.wp
    simp [execOp, ho, resolve, invoke, builtin, hs, hx, hrun, Result.andThen]
    exact h v ⟨w, hE⟩ (by rw [List.append_nil]; exact hown) ⟨rfl, rfl, rfl, Nat.le_refl _, fun _ _ _ => rfl⟩ (.inl rfl)
  · obtain ⟨v', w1, hr, h2, h3, h4, h5⟩ := run_append_own_at (P := P) w lo t o.type e i z sz bytes F.und hi hz hsize hby hzs F.pos v l.length (l.flatMap enc) hown' ad ys.length c (ys.flatMap enc) (flatMap_length he ys) (fun j u hu => by
      have hj := (List.getElem?_eq_some_iff.1 hu).1
      have h0 : 0 < ys.length := by
        cases ys with
        | nil => simp at hj
        | cons y ys => simp
      obtain ⟨y, hy⟩ := getElem?_some_of_lt (l := ys) (k := 0) h0
      obtain ⟨b, off, e2, _⟩ := hc 0 y hy
      cases e2
      have e1 : (⟨b, off, none⟩ : Addr).add j = ⟨b, off + j, none⟩ := by unfold Addr.add; split <;> simp_all
      rw [e1]
      exact SL.flatC he hys j u hu) h1 (by simpa [maxLen] using hb') hb hlo'
    unfold Oper.wp execOp
    simp only [ho, resolve, invoke, builtin, Sem.run_bind, Sem.run_pure, Result.andThen_ok, List.map_toArray, List.map_cons, List.map_nil, hs, hx, hr]
    refine h v' ⟨w1, hE.grown h3 fun k hk => Nat.le_trans hlo (World.ownsRow.lt hown' k hk).1⟩ ?_ h3 h5
    show w1.ownsRow _ _ _ _ _ _
    simpa [Own] using h2
theorem step_catA {P : Program} {t e sz bytes : Nat} (F : AppFacts P t e sz bytes) {ops : Array Oper} {o : Oper} {a : Act} {K : Act → World → Prop} {Q : Exit → Act → World → Prop} {E : Prop} (hgd : o.guard = none) (s x : Operand)
    (ho : o.op = .call { callee := .builtin .append, args := #[s, x], argTypes := #[t, t] }) {α : Type} (enc : α → List Value) (he : ∀ x, (enc x).length = sz) (Wb : World) {lo : Nat} {w : World} (ys : List α) (l : List α) {v vx : Value} (hs : a.eval s = v)
    (hx : a.eval x = vx) (hown : Own enc e sz lo w v l) (hE : Ext Wb w) (hlo : Wb.heap.size ≤ lo) (hlo' : lo ≤ w.heap.size) (hys : SL (RF enc) sz w vx ys)
    (h1 : ∀ u ∈ ys.flatMap enc, u.oneCell' = true) (hb : (l.length + ys.length) * bytes ≤ 140737488355328) (hb' : l.length + ys.length ≤ 9223372036854775807)
    (h : ∀ v' (z1 : Extd Wb), Own enc e sz lo z1.val v' (l ++ ys) → w.grownBy z1.val v.ownBlock → (v'.ownBlock = v.ownBlock ∨ v'.ownBlock = some w.heap.size) → K (a.put o.dst v') z1.val) :
    if Region.wanted o (yielded ops a.tmps) = true then Oper.wp P o a w K Q else E := step_catW F (by simp [Region.wanted, hgd]) s x ho enc he Wb ys l hs hx hown hE hlo hlo' hys h1 hb hb' h
/-- The first j elements are the call's own too. -/
theorem Own.first {α : Type} {enc : α → List Value} {e sz lo : Nat} (he : ∀ x, (enc x).length = sz) {w : World} {p : Option Addr} {n c : Nat} {l : List α} (h : Own enc e sz lo w (.slice p n c) l) {j : Nat} (hj : j ≤ l.length) : Own enc e sz lo w (.slice p j c) (l.take j) := by
  have hl : (l.take j).length = j := by rw [List.length_take]; omega
  have hf : (l.take j).flatMap enc = (l.flatMap enc).take (j * sz) := by
    have e1 : l.flatMap enc = (l.take j).flatMap enc ++ (l.drop j).flatMap enc := by rw [← List.flatMap_append, List.take_append_drop]
    rw [e1, List.take_left' (by rw [flatMap_length he, hl])]
  show w.ownsRow lo e sz _ _ _
  rw [hl, hf]
  refine ⟨by rw [List.length_take, flatMap_length he, Nat.min_eq_left (Nat.mul_le_mul_right _ hj)], ?_⟩
  rcases h.2 with ⟨h1, h2⟩ | ⟨g, cap, cur, hv, hlo, hg, hnc, hcm, hcs, ht⟩
  · cases h1
    left; exact ⟨by rw [show j = 0 by omega], by omega⟩
  · cases hv
    right
    refine ⟨g, c, cur, rfl, hlo, hg, by omega, hcm, hcs, ?_⟩
    rw [← ht, List.take_take, Nat.min_eq_left (Nat.mul_le_mul_right _ hj)]
/-- The elements from j on. -/
theorem SL.rest {α : Type} {R : World → List Value → α → Prop} {sz : Nat} {w : World} {b off n cap : Nat} {l : List α} (h : SL R sz w (.slice (some ⟨b, off, none⟩) n cap) l) {j : Nat} (hj : j ≤ l.length) {m c : Nat} (hm : m = l.length - j) (hc : m ≤ c) {o : Nat} (ho : o = off + j * sz) : SL R sz w (.slice (some ⟨b, o, none⟩) m c) (l.drop j) := by
  subst hm; subst ho
  obtain ⟨a', cap', hv, hl, hcc⟩ := h
  cases hv
  have e : (l.drop j).length = l.length - j := List.length_drop
  refine ⟨_, c, by rw [e], ⟨by rw [e]; omega, by rw [e]; exact hc⟩, fun hne => ?_⟩
  obtain ⟨b', off', ha, hb, hx⟩ := hcc (by intro e0; subst e0; simp at hne)
  cases ha
  refine ⟨b, off + j * sz, rfl, hb, fun i x hi => ?_⟩
  rw [List.getElem?_drop] at hi
  obtain ⟨cs, h1, h2, h3⟩ := hx (j + i) x hi
  refine ⟨cs, h1, fun q u hu => ?_, h3⟩
  rw [← h2 q u hu]
  congr 2
  rw [Nat.add_mul]; omega
end Go.Proofs.Ytnknamddonjnjaa
namespace Go.Proofs.Ytnknamddonjnjaa
open Go Go.RowKit Go.Proofs

theorem insV_at {x : Ver} {l : List Ver} {j : Nat} (h1 : ∀ y ∈ l.take j, verLt y x = true) (h2 : ∀ y, l[j]? = some y → verLt y x = false) : insV x l = l.take j ++ x :: l.drop j := by
  unfold insV
  have e : l = l.take j ++ l.drop j := (List.take_append_drop j l).symm
  have hd : (l.drop j).takeWhile (fun y => verLt y x) = [] ∧ (l.drop j).dropWhile (fun y => verLt y x) = l.drop j := by
    rcases hq : l.drop j with _ | ⟨y, ys⟩
    · exact ⟨rfl, rfl⟩
    · have : l[j]? = some y := by have := congrArg (fun m => m[0]?) hq; simpa [List.getElem?_drop] using this
      have := h2 y this
      simp [this]
  conv => lhs; rw [e]
  rw [List.takeWhile_append_of_pos h1, List.dropWhile_append_of_pos h1, hd.1, hd.2, List.append_nil]
theorem oneVs (l : List Ver) : ∀ u ∈ l.flatMap Ver.enc, u.oneCell' = true := by
  intro u hu
  obtain ⟨x, _, h⟩ := List.mem_flatMap.1 hu
  exact oneV x u h
set_option maxRecDepth 100000 in
set_option maxHeartbeats 4000000 in
theorem l9Put_any (l : List Ver) (u : List Ent) (v vu : Value) (by_ : Int) (w : World) (h : SL (RF Ver.enc) 3 w v l) (hu : SL (RF Ent.enc) 2 w vu u) (hn : l.length ≤ 1048576) (hun : u.length ≤ 1048576) :
    Calls Try.prog 23 #[v, .int .i64 by_, vu] w fun e w' => ∃ v', e = .returned v' ∧ Up w w' ∧ Own Ver.enc 32 3 w.heap.size w' v' (putV l by_ u) := by
  have H := Lib.hid h
  obtain ⟨p0, c0, rfl, _, _⟩ := h.openc
  obtain ⟨pu, cu, rfl, hlu, hcu⟩ := hu.open
  clear h hu
  go_enter Try.func23, Try.ntmps23
  go_wp2_with (go_at_call 54; refine (l9Drop_any l _ by_ _ (H.out.up (by repeat (first | (with_reducible exact Ext.refl _) | (with_reducible refine Ext.up ?_ _) | (with_reducible refine Ext.alloc ?_ _) | (with_reducible refine Ext.drew ?_) | (with_reducible refine Ext.setRow ?_ (by first | exact LeS.le | exact LeS.add _ | (simp; done) | (simp; omega)) _) | (with_reducible refine Ext.setCell ?_ (by first | exact LeS.le | exact LeS.add _ | (simp; done) | (simp; omega)) _)))) (by omega)).mono ?_; rintro e w' ⟨v1, rfl, ⟨z1, rfl⟩, o1⟩)
  have O1 := Lib.hid o1; clear o1
  go_loopw [7, 8] (fun s7 s8 wr => ∃ k : Nat, s8 = .int .i64 k ∧ k ≤ u.length ∧ Up w wr ∧ Own Ver.enc 32 3 w.heap.size wr s7 (putTo by_ (dropV l by_) (u.take k))) (fun _ s8 _ => u.length - (intOf s8).toNat)
  case atStart => exact ⟨0, rfl, Nat.zero_le _, ⟨z1, rfl⟩, O1.out⟩
  case round =>
    obtain ⟨k, rfl, hk, ⟨z, rfl⟩, hown⟩ := hrel
    have hol : (putTo by_ (dropV l by_) (u.take k)).length ≤ 2100000 := by rw [putTo_length, List.length_take]; have := dropV_le l by_; omega
    by_cases hlt : k < u.length
    · obtain ⟨x, hxk⟩ := getElem?_some_of_lt hlt
      have Hsn := Lib.hid (putTo_snoc by_ (dropV l by_) hxk)
      obtain ⟨bu, offu, rfl, hbu, hcc⟩ := hcu k x hxk
      have e0 : w.cell? ⟨bu, offu + k * 2, none⟩ = some (.int .i64 x.k) := hcc 0 _ rfl
      have e1 : w.cell? ⟨bu, offu + k * 2 + 1, none⟩ = some (.int .i64 x.v) := hcc 1 _ rfl
      have kk : (0 : Int) ≤ (k : Int) := by omega
      have kl : (k : Int) < u.length := by omega
      clear hcu hcc hxk
      generalize putTo by_ (dropV l by_) (u.take k) = out at *
      obtain ⟨p, c, rfl, hl1, hc1⟩ := (hown.sl Ver.enc_length).openc
      have HO := Lib.hid hown; clear hown
      have hop := (HO.out.sl Ver.enc_length).open
      obtain ⟨_, _, hop1, _, hop⟩ := hop
      cases hop1
      rcases HO.out.2 with ⟨hv, h0⟩ | ⟨g, cap, cur, hv, hlo, hg, hnc, hcm, hcs, ht⟩
      · simp only [Value.slice.injEq] at hv
        obtain ⟨rfl, h1, rfl⟩ := hv
        obtain rfl : out = [] := List.eq_nil_of_length_eq_zero h0
        clear hop
        rw [show ([] : List Ver).length = 0 from rfl]
        go_wp2_with fail
        (go_region_held3 (fun w' => (∀ n i, ∀ [LtS n z.val], w'.cell? ⟨n, i, none⟩ = World.cell? z.val ⟨n, i, none⟩) ∧ Ext z.val w') ((refine S_of_ext ?_; (repeat (first | exact Ext.refl _ | refine Ext.up ?_ _ | refine Ext.alloc ?_ _ | refine Ext.drew ?_ | refine Ext.setRow ?_ (by first | (dsimp only; omega) | exact LeS.le | exact LeS.add _ | (simp; done) | (simp; omega)) _ | refine Ext.setCell ?_ (by first | (dsimp only; omega) | exact LeS.le | exact LeS.add _ | (simp; done) | (simp; omega)) _)); done)) (fail))
        go_wp2_with fail
        refine wp_named ?_; intro W5 hW5
        have d0 : W5.cell? ⟨z.val.heap.size, 0, none⟩ = some (.int .i64 x.k) := by rw [hW5]; go_simp
        have d1 : W5.cell? ⟨z.val.heap.size, 1, none⟩ = some (.int .i64 by_) := by rw [hW5]; go_simp
        have d2 : W5.cell? ⟨z.val.heap.size, 2, none⟩ = some (.int .i64 x.v) := by rw [hW5]; go_simp
        have E5 : Ext z.val W5 := by rw [hW5]; (exact (by repeat (first | (with_reducible exact Ext.refl _) | (with_reducible refine Ext.up ?_ _) | (with_reducible refine Ext.alloc ?_ _) | (with_reducible refine Ext.drew ?_) | (with_reducible refine Ext.setRow ?_ (by first | exact LeS.le | exact LeS.add _ | (simp; done) | (simp; omega)) _) | (with_reducible refine Ext.setCell ?_ (by first | exact LeS.le | exact LeS.add _ | (simp; done) | (simp; omega)) _))))
        have hS5 : z.val.heap.size < W5.heap.size := by rw [hW5]; simp
        clear hW5
        obtain ⟨zW, rfl⟩ := Up.of E5
        have hL5 : LtS z.val.heap.size zW.val := ⟨hS5⟩
        go_loopw [10] (fun s10 wr => s10 = .int .i64 0 ∧ Up zW.val wr) (fun s10 _ => 0)
        case atStart => exact ⟨rfl, (.of (by repeat (first | (with_reducible exact Ext.refl _) | (with_reducible refine Ext.up ?_ _) | (with_reducible refine Ext.alloc ?_ _) | (with_reducible refine Ext.drew ?_) | (with_reducible refine Ext.setRow ?_ (by first | exact LeS.le | exact LeS.add _ | (simp; done) | (simp; omega)) _) | (with_reducible refine Ext.setCell ?_ (by first | exact LeS.le | exact LeS.add _ | (simp; done) | (simp; omega)) _))))⟩
        case round =>
          obtain ⟨rfl, ⟨z5, rfl⟩⟩ := hrel
          go_wp2_with fail
          (refine wp_region_up (by kernel_rfl) (by kernel_rfl) ?_; (repeat (go_big_quiet_step (fail))); refine wpQuiet_nil ?_; intro _ hw'; obtain ⟨zq, hw''⟩ := hw'; subst hw'')
          go_wp2_with (at_builtin; refine wpList_catA fVer rfl (.tmp 68) (.tmp 71) rfl Ver.enc Ver.enc_length zW.val (lo := zW.val.heap.size) [] [] rfl (Own.lit rfl LeS.le rfl rfl Ver.enc_length (by simp)) (by repeat (first | (with_reducible exact Ext.refl _) | (with_reducible refine Ext.up ?_ _) | (with_reducible refine Ext.alloc ?_ _) | (with_reducible refine Ext.drew ?_) | (with_reducible refine Ext.setRow ?_ (by first | exact LeS.le | exact LeS.add _ | (simp; done) | (simp; omega)) _) | (with_reducible refine Ext.setCell ?_ (by first | exact LeS.le | exact LeS.add _ | (simp; done) | (simp; omega)) _))) LeS.le LeS.le rfl (SL.nil _ _ _ _ _) (oneVs _) (by simp) (by simp) ?_; intro v9 z9 o9 g9 b9)
          have O9 := Lib.hid o9; clear o9 g9 b9
          have HOj := Lib.hid (show Own Ver.enc 32 3 w.heap.size z.val (.slice none 0 0) [] from Own.nil _ _ _ _ _)
          have AP9 := Lib.hid (show Apart v9 (.slice none 0 0) from Apart.nil' _ _ _)
          go_wp2_with fail
          go_region_law (first | (refine step_pushG fVer (by rfl) (.tmp 75) (.tmp 77) (by rfl) Ver.enc Ver.enc_length w (lo := w.heap.size) [mkV by_ x] [] (by rfl) (by rfl) (heap_alloc_new _ _) (HOj.out.up (by repeat (first | exact Ext.refl _ | refine Ext.up ?_ _ | refine Ext.alloc ?_ _ | refine Ext.drew ?_ | refine Ext.setRow ?_ (by first | (dsimp only; omega) | exact LeS.le | exact LeS.add _ | (simp; done) | (simp; omega)) _ | refine Ext.setCell ?_ (by first | (dsimp only; omega) | exact LeS.le | exact LeS.add _ | (simp; done) | (simp; omega)) _))) (by repeat (first | exact Ext.refl _ | refine Ext.up ?_ _ | refine Ext.alloc ?_ _ | refine Ext.drew ?_ | refine Ext.setRow ?_ (by first | (dsimp only; omega) | exact LeS.le | exact LeS.add _ | (simp; done) | (simp; omega)) _ | refine Ext.setCell ?_ (by first | (dsimp only; omega) | exact LeS.le | exact LeS.add _ | (simp; done) | (simp; omega)) _)) (Nat.le_refl _) LeS.le (by rfl) (by decide) (by rfl) (oneVs _) (by simp) (by simp) ?_; intro v7 z7 o7 g7 b7; have K9 := Own.keep (O9.out.up (by repeat (first | exact Ext.refl _ | refine Ext.up ?_ _ | refine Ext.alloc ?_ _ | refine Ext.drew ?_ | refine Ext.setRow ?_ (by first | (dsimp only; omega) | exact LeS.le | exact LeS.add _ | (simp; done) | (simp; omega)) _ | refine Ext.setCell ?_ (by first | (dsimp only; omega) | exact LeS.le | exact LeS.add _ | (simp; done) | (simp; omega)) _))) g7 AP9.out) | (refine step_catA fVer (by rfl) (.tmp 78) (.tmp 79) (by rfl) Ver.enc Ver.enc_length w (lo := w.heap.size) [] ([] ++ [mkV by_ x]) (by rfl) (by rfl) o7 (by repeat (first | exact Ext.refl _ | refine Ext.up ?_ _ | refine Ext.alloc ?_ _ | refine Ext.drew ?_ | refine Ext.setRow ?_ (by first | (dsimp only; omega) | exact LeS.le | exact LeS.add _ | (simp; done) | (simp; omega)) _ | refine Ext.setCell ?_ (by first | (dsimp only; omega) | exact LeS.le | exact LeS.add _ | (simp; done) | (simp; omega)) _)) (Nat.le_refl _) LeS.le (K9.sl Ver.enc_length) (oneVs _) (by simp) (by simp) ?_; intro v8 z8 o8 g8 b8))
          all_goals
            have O8 := Lib.hid o8; clear o8 g8 b8 K9 o7 g7 b7
            go_wp2_with fail
            go_roundw
            case rel =>
              refine ⟨k + 1, by go_num, by omega, ⟨z8, rfl⟩, ?_⟩
              rw [Hsn.out]
              have := O8.out
              simpa [insV] using this
            case measure => simp [intOf]; omega
      · cases hv
        have hlg : g < z.val.heap.size := (Array.getElem?_eq_some_iff.1 hg).1
        clear hg hcs ht hnc
        go_wp2_with fail
        (go_region_held3 (fun w' => (∀ n i, ∀ [LtS n z.val], w'.cell? ⟨n, i, none⟩ = World.cell? z.val ⟨n, i, none⟩) ∧ Ext z.val w') ((refine S_of_ext ?_; (repeat (first | exact Ext.refl _ | refine Ext.up ?_ _ | refine Ext.alloc ?_ _ | refine Ext.drew ?_ | refine Ext.setRow ?_ (by first | (dsimp only; omega) | exact LeS.le | exact LeS.add _ | (simp; done) | (simp; omega)) _ | refine Ext.setCell ?_ (by first | (dsimp only; omega) | exact LeS.le | exact LeS.add _ | (simp; done) | (simp; omega)) _)); done)) (fail))
        all_goals
          go_wp2_with fail
          refine wp_named ?_; intro W5 hW5
          have d0 : W5.cell? ⟨z.val.heap.size, 0, none⟩ = some (.int .i64 x.k) := by rw [hW5]; go_simp
          have d1 : W5.cell? ⟨z.val.heap.size, 1, none⟩ = some (.int .i64 by_) := by rw [hW5]; go_simp
          have d2 : W5.cell? ⟨z.val.heap.size, 2, none⟩ = some (.int .i64 x.v) := by rw [hW5]; go_simp
          have E5 : Ext z.val W5 := by rw [hW5]; (exact (by repeat (first | (with_reducible exact Ext.refl _) | (with_reducible refine Ext.up ?_ _) | (with_reducible refine Ext.alloc ?_ _) | (with_reducible refine Ext.drew ?_) | (with_reducible refine Ext.setRow ?_ (by first | exact LeS.le | exact LeS.add _ | (simp; done) | (simp; omega)) _) | (with_reducible refine Ext.setCell ?_ (by first | exact LeS.le | exact LeS.add _ | (simp; done) | (simp; omega)) _))))
          have hS5 : z.val.heap.size < W5.heap.size := by rw [hW5]; simp
          have hLg : LtS g z.val := ⟨hlg⟩
          clear hW5
          obtain ⟨zW, rfl⟩ := Up.of E5
          have hL5 : LtS z.val.heap.size zW.val := ⟨hS5⟩
          go_loopw [10] (fun s10 wr => ∃ j : Nat, s10 = .int .i64 j ∧ j ≤ out.length ∧ Up zW.val wr ∧ ∀ y ∈ out.take j, verLt y (mkV by_ x) = true) (fun s10 _ => out.length - (intOf s10).toNat)
          case atStart => exact ⟨0, rfl, Nat.zero_le _, (.of (by repeat (first | (with_reducible exact Ext.refl _) | (with_reducible refine Ext.up ?_ _) | (with_reducible refine Ext.alloc ?_ _) | (with_reducible refine Ext.drew ?_) | (with_reducible refine Ext.setRow ?_ (by first | exact LeS.le | exact LeS.add _ | (simp; done) | (simp; omega)) _) | (with_reducible refine Ext.setCell ?_ (by first | exact LeS.le | exact LeS.add _ | (simp; done) | (simp; omega)) _)))), by simp⟩
          case round =>
            obtain ⟨j, rfl, hj, ⟨z5, rfl⟩, hall⟩ := hrel
            have Hall := Lib.hid hall; clear hall
            by_cases hjl : j < out.length
            · obtain ⟨y, hyk⟩ := getElem?_some_of_lt hjl
              obtain ⟨_, _, ee, _, hyc⟩ := hop j y hyk
              cases ee
              have f0 : z.val.cell? ⟨g, j * 3, none⟩ = some (.int .i64 y.k) := by simpa using hyc 0 _ rfl
              have f1 : z.val.cell? ⟨g, j * 3 + 1, none⟩ = some (.int .i64 y.b) := by simpa using hyc 1 _ rfl
              have j0 : (0 : Int) ≤ (j : Int) := by omega
              have j1 : (j : Int) < out.length := by omega
              have Hy := Lib.hid hyk
              clear hyc hyk
              by_cases q1 : y.k < x.k
              · have q1' : decide (y.k < x.k) = true := by simpa using q1
                have Q1 := Lib.hid q1; clear q1
                go_wp2_with fail
                (refine wp_region_up (by kernel_rfl) (by kernel_rfl) ?_; (repeat (go_big_quiet_step (fail))); refine wpQuiet_nil ?_; intro _ hw'; obtain ⟨zq, hw''⟩ := hw'; subst hw'')
                go_wp2_with fail
                go_roundw
                case rel => exact ⟨j + 1, by go_num, by omega, (.of (by repeat (first | (with_reducible exact Ext.refl _) | (with_reducible refine Ext.up ?_ _) | (with_reducible refine Ext.alloc ?_ _) | (with_reducible refine Ext.drew ?_) | (with_reducible refine Ext.setRow ?_ (by first | exact LeS.le | exact LeS.add _ | (simp; done) | (simp; omega)) _) | (with_reducible refine Ext.setCell ?_ (by first | exact LeS.le | exact LeS.add _ | (simp; done) | (simp; omega)) _)))), by rw [List.take_add_one, Hy.out]; intro y' hy'; rcases List.mem_append.1 hy' with h | h; exact Hall.out y' h; simp at h; subst h; exact (verLt_iff _ _).2 (.inl Q1.out)⟩
                case measure => simp [intOf]; omega
              · rcases Int.lt_trichotomy y.k x.k with h1 | h1 | h1
                · exact absurd h1 q1
                · have g1 : decide (y.k < x.k) = false := by simpa using q1
                  have g2 : (y.k == x.k) = true := by simpa using h1
                  by_cases q3 : y.b < by_
                  · have g3 : decide (y.b < by_) = true := by simpa using q3
                    have Q1 := Lib.hid h1; have Q3 := Lib.hid q3; clear h1 q1 q3
                    go_wp2_with fail
                    (refine wp_region_up (by kernel_rfl) (by kernel_rfl) ?_; (repeat (go_big_quiet_step (fail))); refine wpQuiet_nil ?_; intro _ hw'; obtain ⟨zq, hw''⟩ := hw'; subst hw'')
                    go_wp2_with fail
                    go_roundw
                    case rel => exact ⟨j + 1, by go_num, by omega, (.of (by repeat (first | (with_reducible exact Ext.refl _) | (with_reducible refine Ext.up ?_ _) | (with_reducible refine Ext.alloc ?_ _) | (with_reducible refine Ext.drew ?_) | (with_reducible refine Ext.setRow ?_ (by first | exact LeS.le | exact LeS.add _ | (simp; done) | (simp; omega)) _) | (with_reducible refine Ext.setCell ?_ (by first | exact LeS.le | exact LeS.add _ | (simp; done) | (simp; omega)) _)))), by rw [List.take_add_one, Hy.out]; intro y' hy'; rcases List.mem_append.1 hy' with h | h; exact Hall.out y' h; simp at h; subst h; exact (verLt_iff _ _).2 (.inr ⟨Q1.out, Q3.out⟩)⟩
                    case measure => simp [intOf]; omega
                  · have g3 : decide (y.b < by_) = false := by simpa using q3
                    have Hstop := Lib.hid (show ∀ y, out[j]? = some y → verLt y (mkV by_ x) = false by intro y' hy'; rw [Hy.out] at hy'; cases hy'; refine verLt_not ?_; show ¬ (y.k < x.k ∨ (y.k = x.k ∧ y.b < by_)); omega)
                    clear h1 q1 q3
                    go_wp2_with fail
                    (refine wp_region_up (by kernel_rfl) (by kernel_rfl) ?_; (repeat (go_big_quiet_step (fail))); refine wpQuiet_nil ?_; intro _ hw'; obtain ⟨zq, hw''⟩ := hw'; subst hw'')
                    go_wp2_with (at_builtin; refine wpList_catA fVer rfl (.tmp 68) (.tmp 71) rfl Ver.enc Ver.enc_length zW.val (lo := zW.val.heap.size) (out.drop j) [] rfl (Own.lit rfl LeS.le rfl rfl Ver.enc_length (by simp)) (by repeat (first | (with_reducible exact Ext.refl _) | (with_reducible refine Ext.up ?_ _) | (with_reducible refine Ext.alloc ?_ _) | (with_reducible refine Ext.drew ?_) | (with_reducible refine Ext.setRow ?_ (by first | exact LeS.le | exact LeS.add _ | (simp; done) | (simp; omega)) _) | (with_reducible refine Ext.setCell ?_ (by first | exact LeS.le | exact LeS.add _ | (simp; done) | (simp; omega)) _))) LeS.le LeS.le rfl (by first | exact SL.up (SL.rest (HO.out.sl Ver.enc_length) hj (by omega) (by omega) (by omega)) (by repeat (first | (with_reducible exact Ext.refl _) | (with_reducible refine Ext.up ?_ _) | (with_reducible refine Ext.alloc ?_ _) | (with_reducible refine Ext.drew ?_) | (with_reducible refine Ext.setRow ?_ (by first | exact LeS.le | exact LeS.add _ | (simp; done) | (simp; omega)) _) | (with_reducible refine Ext.setCell ?_ (by first | exact LeS.le | exact LeS.add _ | (simp; done) | (simp; omega)) _))) | (have e : out.length - j = 0 := (by omega); have e2 : out.drop j = [] := (List.drop_eq_nil_of_le (by omega)); rw [e, e2]; exact SL.nil _ _ _ _ _)) (oneVs _) (by simp; omega) (by simp; omega) ?_; intro v9 z9 o9 g9 b9)
                    all_goals
                      have O9 := Lib.hid o9; clear o9 g9 b9
                      have HOj := Lib.hid (HO.out.first Ver.enc_length hj)
                      have AP9 := Lib.hid (Apart.of_lt HOj.out O9.out (Nat.le_of_lt hS5)).symm
                      have hlj : (out.take j).length = j := by rw [List.length_take]; omega
                      have hld : (out.drop j).length = out.length - j := List.length_drop
                      have hjc : j ≤ c := by omega
                      go_wp2_with fail
                      go_region_law (first | (refine step_pushG fVer (by rfl) (.tmp 75) (.tmp 77) (by rfl) Ver.enc Ver.enc_length w (lo := w.heap.size) [mkV by_ x] (out.take j) (by rfl) (by rfl) (heap_alloc_new _ _) (HOj.out.up (by repeat (first | exact Ext.refl _ | refine Ext.up ?_ _ | refine Ext.alloc ?_ _ | refine Ext.drew ?_ | refine Ext.setRow ?_ (by first | (dsimp only; omega) | exact LeS.le | exact LeS.add _ | (simp; done) | (simp; omega)) _ | refine Ext.setCell ?_ (by first | (dsimp only; omega) | exact LeS.le | exact LeS.add _ | (simp; done) | (simp; omega)) _))) (by repeat (first | exact Ext.refl _ | refine Ext.up ?_ _ | refine Ext.alloc ?_ _ | refine Ext.drew ?_ | refine Ext.setRow ?_ (by first | (dsimp only; omega) | exact LeS.le | exact LeS.add _ | (simp; done) | (simp; omega)) _ | refine Ext.setCell ?_ (by first | (dsimp only; omega) | exact LeS.le | exact LeS.add _ | (simp; done) | (simp; omega)) _)) (Nat.le_refl _) LeS.le (by rfl) (by decide) (by rfl) (oneVs _) (by simp; omega) (by simp; omega) ?_; intro v7 z7 o7 g7 b7; have K9 := Own.keep (O9.out.up (by repeat (first | exact Ext.refl _ | refine Ext.up ?_ _ | refine Ext.alloc ?_ _ | refine Ext.drew ?_ | refine Ext.setRow ?_ (by first | (dsimp only; omega) | exact LeS.le | exact LeS.add _ | (simp; done) | (simp; omega)) _ | refine Ext.setCell ?_ (by first | (dsimp only; omega) | exact LeS.le | exact LeS.add _ | (simp; done) | (simp; omega)) _))) g7 AP9.out) | (refine step_catA fVer (by rfl) (.tmp 78) (.tmp 79) (by rfl) Ver.enc Ver.enc_length w (lo := w.heap.size) (out.drop j) (out.take j ++ [mkV by_ x]) (by rfl) (by rfl) o7 (by repeat (first | exact Ext.refl _ | refine Ext.up ?_ _ | refine Ext.alloc ?_ _ | refine Ext.drew ?_ | refine Ext.setRow ?_ (by first | (dsimp only; omega) | exact LeS.le | exact LeS.add _ | (simp; done) | (simp; omega)) _ | refine Ext.setCell ?_ (by first | (dsimp only; omega) | exact LeS.le | exact LeS.add _ | (simp; done) | (simp; omega)) _)) (Nat.le_refl _) LeS.le (K9.sl Ver.enc_length) (oneVs _) (by simp; omega) (by simp; omega) ?_; intro v8 z8 o8 g8 b8))
                      all_goals
                        have O8 := Lib.hid o8; clear o8 g8 b8 K9 o7 g7 b7
                        go_wp2_with fail
                        go_roundw
                        case rel =>
                          refine ⟨k + 1, by go_num, by omega, ⟨z8, rfl⟩, ?_⟩
                          rw [Hsn.out, insV_at Hall.out Hstop.out]
                          have := O8.out
                          rw [List.append_assoc] at this
                          exact this
                        case measure => simp [intOf]; omega
                · have g1 : decide (y.k < x.k) = false := by simpa using q1
                  have g2 : (y.k == x.k) = false := by rw [beq_eq_false_iff_ne]; omega
                  have Hstop := Lib.hid (show ∀ y, out[j]? = some y → verLt y (mkV by_ x) = false by intro y' hy'; rw [Hy.out] at hy'; cases hy'; refine verLt_not ?_; show ¬ (y.k < x.k ∨ (y.k = x.k ∧ y.b < by_)); omega)
                  clear h1 q1
                  go_wp2_with fail
                  (refine wp_region_up (by kernel_rfl) (by kernel_rfl) ?_; (repeat (go_big_quiet_step (fail))); refine wpQuiet_nil ?_; intro _ hw'; obtain ⟨zq, hw''⟩ := hw'; subst hw'')
                  go_wp2_with (at_builtin; refine wpList_catA fVer rfl (.tmp 68) (.tmp 71) rfl Ver.enc Ver.enc_length zW.val (lo := zW.val.heap.size) (out.drop j) [] rfl (Own.lit rfl LeS.le rfl rfl Ver.enc_length (by simp)) (by repeat (first | (with_reducible exact Ext.refl _) | (with_reducible refine Ext.up ?_ _) | (with_reducible refine Ext.alloc ?_ _) | (with_reducible refine Ext.drew ?_) | (with_reducible refine Ext.setRow ?_ (by first | exact LeS.le | exact LeS.add _ | (simp; done) | (simp; omega)) _) | (with_reducible refine Ext.setCell ?_ (by first | exact LeS.le | exact LeS.add _ | (simp; done) | (simp; omega)) _))) LeS.le LeS.le rfl (by first | exact SL.up (SL.rest (HO.out.sl Ver.enc_length) hj (by omega) (by omega) (by omega)) (by repeat (first | (with_reducible exact Ext.refl _) | (with_reducible refine Ext.up ?_ _) | (with_reducible refine Ext.alloc ?_ _) | (with_reducible refine Ext.drew ?_) | (with_reducible refine Ext.setRow ?_ (by first | exact LeS.le | exact LeS.add _ | (simp; done) | (simp; omega)) _) | (with_reducible refine Ext.setCell ?_ (by first | exact LeS.le | exact LeS.add _ | (simp; done) | (simp; omega)) _))) | (have e : out.length - j = 0 := (by omega); have e2 : out.drop j = [] := (List.drop_eq_nil_of_le (by omega)); rw [e, e2]; exact SL.nil _ _ _ _ _)) (oneVs _) (by simp; omega) (by simp; omega) ?_; intro v9 z9 o9 g9 b9)
                  all_goals
                    have O9 := Lib.hid o9; clear o9 g9 b9
                    have HOj := Lib.hid (HO.out.first Ver.enc_length hj)
                    have AP9 := Lib.hid (Apart.of_lt HOj.out O9.out (Nat.le_of_lt hS5)).symm
                    have hlj : (out.take j).length = j := by rw [List.length_take]; omega
                    have hld : (out.drop j).length = out.length - j := List.length_drop
                    have hjc : j ≤ c := by omega
                    go_wp2_with fail
                    go_region_law (first | (refine step_pushG fVer (by rfl) (.tmp 75) (.tmp 77) (by rfl) Ver.enc Ver.enc_length w (lo := w.heap.size) [mkV by_ x] (out.take j) (by rfl) (by rfl) (heap_alloc_new _ _) (HOj.out.up (by repeat (first | exact Ext.refl _ | refine Ext.up ?_ _ | refine Ext.alloc ?_ _ | refine Ext.drew ?_ | refine Ext.setRow ?_ (by first | (dsimp only; omega) | exact LeS.le | exact LeS.add _ | (simp; done) | (simp; omega)) _ | refine Ext.setCell ?_ (by first | (dsimp only; omega) | exact LeS.le | exact LeS.add _ | (simp; done) | (simp; omega)) _))) (by repeat (first | exact Ext.refl _ | refine Ext.up ?_ _ | refine Ext.alloc ?_ _ | refine Ext.drew ?_ | refine Ext.setRow ?_ (by first | (dsimp only; omega) | exact LeS.le | exact LeS.add _ | (simp; done) | (simp; omega)) _ | refine Ext.setCell ?_ (by first | (dsimp only; omega) | exact LeS.le | exact LeS.add _ | (simp; done) | (simp; omega)) _)) (Nat.le_refl _) LeS.le (by rfl) (by decide) (by rfl) (oneVs _) (by simp; omega) (by simp; omega) ?_; intro v7 z7 o7 g7 b7; have K9 := Own.keep (O9.out.up (by repeat (first | exact Ext.refl _ | refine Ext.up ?_ _ | refine Ext.alloc ?_ _ | refine Ext.drew ?_ | refine Ext.setRow ?_ (by first | (dsimp only; omega) | exact LeS.le | exact LeS.add _ | (simp; done) | (simp; omega)) _ | refine Ext.setCell ?_ (by first | (dsimp only; omega) | exact LeS.le | exact LeS.add _ | (simp; done) | (simp; omega)) _))) g7 AP9.out) | (refine step_catA fVer (by rfl) (.tmp 78) (.tmp 79) (by rfl) Ver.enc Ver.enc_length w (lo := w.heap.size) (out.drop j) (out.take j ++ [mkV by_ x]) (by rfl) (by rfl) o7 (by repeat (first | exact Ext.refl _ | refine Ext.up ?_ _ | refine Ext.alloc ?_ _ | refine Ext.drew ?_ | refine Ext.setRow ?_ (by first | (dsimp only; omega) | exact LeS.le | exact LeS.add _ | (simp; done) | (simp; omega)) _ | refine Ext.setCell ?_ (by first | (dsimp only; omega) | exact LeS.le | exact LeS.add _ | (simp; done) | (simp; omega)) _)) (Nat.le_refl _) LeS.le (K9.sl Ver.enc_length) (oneVs _) (by simp; omega) (by simp; omega) ?_; intro v8 z8 o8 g8 b8))
                    all_goals
                      have O8 := Lib.hid o8; clear o8 g8 b8 K9 o7 g7 b7
                      go_wp2_with fail
                      go_roundw
                      case rel =>
                        refine ⟨k + 1, by go_num, by omega, ⟨z8, rfl⟩, ?_⟩
                        rw [Hsn.out, insV_at Hall.out Hstop.out]
                        have := O8.out
                        rw [List.append_assoc] at this
                        exact this
                      case measure => simp [intOf]; omega
            · have Hstop := Lib.hid (show ∀ y, out[j]? = some y → verLt y (mkV by_ x) = false by intro y' hy'; have := (List.getElem?_eq_some_iff.1 hy').1; omega)
              go_wp2_with fail
              (refine wp_region_up (by kernel_rfl) (by kernel_rfl) ?_; (repeat (go_big_quiet_step (fail))); refine wpQuiet_nil ?_; intro _ hw'; obtain ⟨zq, hw''⟩ := hw'; subst hw'')
              go_wp2_with (at_builtin; refine wpList_catA fVer rfl (.tmp 68) (.tmp 71) rfl Ver.enc Ver.enc_length zW.val (lo := zW.val.heap.size) (out.drop j) [] rfl (Own.lit rfl LeS.le rfl rfl Ver.enc_length (by simp)) (by repeat (first | (with_reducible exact Ext.refl _) | (with_reducible refine Ext.up ?_ _) | (with_reducible refine Ext.alloc ?_ _) | (with_reducible refine Ext.drew ?_) | (with_reducible refine Ext.setRow ?_ (by first | exact LeS.le | exact LeS.add _ | (simp; done) | (simp; omega)) _) | (with_reducible refine Ext.setCell ?_ (by first | exact LeS.le | exact LeS.add _ | (simp; done) | (simp; omega)) _))) LeS.le LeS.le rfl (by first | exact SL.up (SL.rest (HO.out.sl Ver.enc_length) hj (by omega) (by omega) (by omega)) (by repeat (first | (with_reducible exact Ext.refl _) | (with_reducible refine Ext.up ?_ _) | (with_reducible refine Ext.alloc ?_ _) | (with_reducible refine Ext.drew ?_) | (with_reducible refine Ext.setRow ?_ (by first | exact LeS.le | exact LeS.add _ | (simp; done) | (simp; omega)) _) | (with_reducible refine Ext.setCell ?_ (by first | exact LeS.le | exact LeS.add _ | (simp; done) | (simp; omega)) _))) | (have e : out.length - j = 0 := (by omega); have e2 : out.drop j = [] := (List.drop_eq_nil_of_le (by omega)); rw [e, e2]; exact SL.nil _ _ _ _ _)) (oneVs _) (by simp; omega) (by simp; omega) ?_; intro v9 z9 o9 g9 b9)
              all_goals
                try (replace h := h.symm; subst h)
                have O9 := Lib.hid o9; clear o9 g9 b9
                have HOj := Lib.hid (HO.out.first Ver.enc_length hj)
                have AP9 := Lib.hid (Apart.of_lt HOj.out O9.out (Nat.le_of_lt hS5)).symm
                have hlj : (out.take j).length = j := by rw [List.length_take]; omega
                have hld : (out.drop j).length = out.length - j := List.length_drop
                try (have hjc : j ≤ c := by omega)
                go_wp2_with fail
                go_region_law (first | (refine step_pushG fVer (by rfl) (.tmp 75) (.tmp 77) (by rfl) Ver.enc Ver.enc_length w (lo := w.heap.size) [mkV by_ x] (out.take j) (by rfl) (by rfl) (heap_alloc_new _ _) (HOj.out.up (by repeat (first | exact Ext.refl _ | refine Ext.up ?_ _ | refine Ext.alloc ?_ _ | refine Ext.drew ?_ | refine Ext.setRow ?_ (by first | (dsimp only; omega) | exact LeS.le | exact LeS.add _ | (simp; done) | (simp; omega)) _ | refine Ext.setCell ?_ (by first | (dsimp only; omega) | exact LeS.le | exact LeS.add _ | (simp; done) | (simp; omega)) _))) (by repeat (first | exact Ext.refl _ | refine Ext.up ?_ _ | refine Ext.alloc ?_ _ | refine Ext.drew ?_ | refine Ext.setRow ?_ (by first | (dsimp only; omega) | exact LeS.le | exact LeS.add _ | (simp; done) | (simp; omega)) _ | refine Ext.setCell ?_ (by first | (dsimp only; omega) | exact LeS.le | exact LeS.add _ | (simp; done) | (simp; omega)) _)) (Nat.le_refl _) LeS.le (by rfl) (by decide) (by rfl) (oneVs _) (by simp; omega) (by simp; omega) ?_; intro v7 z7 o7 g7 b7; have K9 := Own.keep (O9.out.up (by repeat (first | exact Ext.refl _ | refine Ext.up ?_ _ | refine Ext.alloc ?_ _ | refine Ext.drew ?_ | refine Ext.setRow ?_ (by first | (dsimp only; omega) | exact LeS.le | exact LeS.add _ | (simp; done) | (simp; omega)) _ | refine Ext.setCell ?_ (by first | (dsimp only; omega) | exact LeS.le | exact LeS.add _ | (simp; done) | (simp; omega)) _))) g7 AP9.out) | (refine step_catA fVer (by rfl) (.tmp 78) (.tmp 79) (by rfl) Ver.enc Ver.enc_length w (lo := w.heap.size) (out.drop j) (out.take j ++ [mkV by_ x]) (by rfl) (by rfl) o7 (by repeat (first | exact Ext.refl _ | refine Ext.up ?_ _ | refine Ext.alloc ?_ _ | refine Ext.drew ?_ | refine Ext.setRow ?_ (by first | (dsimp only; omega) | exact LeS.le | exact LeS.add _ | (simp; done) | (simp; omega)) _ | refine Ext.setCell ?_ (by first | (dsimp only; omega) | exact LeS.le | exact LeS.add _ | (simp; done) | (simp; omega)) _)) (Nat.le_refl _) LeS.le (K9.sl Ver.enc_length) (oneVs _) (by simp; omega) (by simp; omega) ?_; intro v8 z8 o8 g8 b8))
                all_goals
                  have O8 := Lib.hid o8; clear o8 g8 b8 K9 o7 g7 b7
                  go_wp2_with fail
                  go_roundw
                  case rel =>
                    refine ⟨k + 1, by go_num, by omega, ⟨z8, rfl⟩, ?_⟩
                    rw [Hsn.out, insV_at Hall.out Hstop.out]
                    have := O8.out
                    rw [List.append_assoc] at this
                    exact this
                  case measure => simp [intOf]; omega
    · obtain rfl : k = u.length := by omega
      rw [List.take_length] at hown
      have HO := Lib.hid hown; clear hown hcu
      go_wp2_with fail
      go_ret
      exact ⟨_, rfl, (.of (by repeat (first | (with_reducible exact Ext.refl _) | (with_reducible refine Ext.up ?_ _) | (with_reducible refine Ext.alloc ?_ _) | (with_reducible refine Ext.drew ?_) | (with_reducible refine Ext.setRow ?_ (by first | exact LeS.le | exact LeS.add _ | (simp; done) | (simp; omega)) _) | (with_reducible refine Ext.setCell ?_ (by first | exact LeS.le | exact LeS.add _ | (simp; done) | (simp; omega)) _)))), HO.out⟩
end Go.Proofs.Ytnknamddonjnjaa
