/- Walks: orders of actions by their levels: the program's side, with slices.SortFunc by its contract of the kit's shelf. Walks: orders of actions by their levels: the program's function, and the law FnExactLevelOrder. Plain ground: append of a whole slice in a region that draws its order; parts of slices of the call's own. -/
import Derived.Test.YtkboefmkfpnpjaaGEvTop23
import Derived.Sort.WalkB12
import Derived.Test.YtkboefmkfpnpjaaGEvTop15
set_option linter.unusedSimpArgs false
set_option linter.unusedVariables false
namespace Go.Proofs.Ytkboefmkfpnpjaa
open Go Go.RowKit Go.Proofs Go.Sort

theorem take_putL {α : Type} [Inhabited α] (enc : α → Value) (cur : Array Value) (d : Array α) (h : d.size ≤ cur.size) : (putCells enc 0 d cur).toList.take d.size = d.toList.map enc := by
  apply List.ext_getElem?
  intro j
  by_cases hj : j < d.size
  · rw [List.getElem?_take_of_lt hj, Array.getElem?_toList]
    simp [putCells, hj, show j < cur.size by omega]
  · rw [List.getElem?_take_eq_none (by omega), List.getElem?_eq_none (by simp; omega)]
/-- A row of the call's own with other cells. -/
theorem ownsRow_putL {α : Type} [Inhabited α] (enc : α → Value) {w : World} {base e sz n : Nat} {g m cap : Nat} {xs : List Value} (os : Array Obj) (d : Array α) (h : w.ownsRow base e sz (.slice (some ⟨g, 0, none⟩) m cap) m xs) (hd : d.size = m * sz) :
    (grow (putRow enc (Sort.ahead w n) g 0 d) os).ownsRow base e sz (.slice (some ⟨g, 0, none⟩) m cap) m (d.toList.map enc) := by
  rcases h.2 with ⟨h0, _⟩ | ⟨g', cap', cur, hv, hbase, hb, h1, h2, h3, _⟩
  · cases h0
  · cases hv
    have hg : g < w.heap.size := (Array.getElem?_eq_some_iff.1 hb).1
    refine ⟨by simp [hd], .inr ⟨g, cap, putCells enc 0 d cur, rfl, hbase, ?_, h1, h2, by simp [putCells, h3], ?_⟩⟩
    · rw [heap_grow_old _ _ (by simpa using hg)]
      simp [putRow, mapBlock, Sort.ahead, Array.getElem?_modify, hb, onCells]
    · rw [← hd]
      refine take_putL enc cur d ?_
      rw [h3, hd]; exact Nat.mul_le_mul_right _ h1
theorem grownBy_putL {α : Type} [Inhabited α] (enc : α → Value) {w : World} {g n : Nat} {os : Array Obj} (d : Array α) : w.grownBy (grow (putRow enc (Sort.ahead w n) g 0 d) os) (some g) := by
  refine ⟨rfl, rfl, rfl, by simp, fun k hk hne => ?_⟩
  rw [heap_grow_old _ _ (by simpa using hk)]
  have : g ≠ k := fun e => hne (by rw [e])
  simp [putRow, mapBlock, Sort.ahead, Array.getElem?_modify, this]
/-- w' is W with draws made and blocks laid. -/
def GR (W w' : World) : Prop := ∃ q os', w' = grow (W.drewN q) os'
theorem GR.refl (W : World) : GR W W := ⟨0, #[], by rw [grow_empty]; rfl⟩
theorem GR.drew {W w' : World} (h : GR W w') : GR W w'.drew := by
  obtain ⟨q, os, rfl⟩ := h
  exact ⟨q + 1, os, rfl⟩
theorem GR.alloc {W w' : World} (h : GR W w') (o : Obj) : GR W (w'.alloc o) := by
  obtain ⟨q, os, rfl⟩ := h
  exact ⟨q, os ++ #[o], by rw [alloc_eq_grow, grow_grow]⟩
theorem GR.ext {W w' : World} (h : GR W w') : Ext W w' := by
  obtain ⟨q, os, rfl⟩ := h
  exact ⟨rfl, rfl, rfl, by simp [grow, World.drewN], fun k hk => by rw [heap_grow_old _ _ (by simpa [World.drewN] using hk)]; rfl⟩
theorem S_of_gr {W w' : World} (h : GR W w') : (∀ n i, ∀ [LtS n W], w'.cell? ⟨n, i, none⟩ = W.cell? ⟨n, i, none⟩) ∧ GR W w' := ⟨(S_of_ext h.ext).1, h⟩
def cmpL (lv : List Int) (x y : Int) : Int := or2 (lvl0 lv x - lvl0 lv y) (y - x)
theorem cmpL_lt (lv : List Int) (x y : Int) : cmpL lv x y < 0 ↔ lvLt lv x y := by
  unfold cmpL or2 lvLt
  split <;> omega
set_option maxRecDepth 100000 in
set_option maxHeartbeats 1000000 in
theorem levelCmp_any (lv : List Int) (box p0 off c : Nat) (x y : Nat) (W : World) (hx : x < lv.length) (hy : y < lv.length) (hlen : lv.length ≤ 10) (hin : ∀ a ∈ lv, 0 ≤ a ∧ a ≤ 1000) (hbox : W.cell? ⟨box, 0, none⟩ = some (.slice (some ⟨p0, off, none⟩) lv.length c)) (hs : SL (RF encI) 1 W (.slice (some ⟨p0, off, none⟩) lv.length c) lv) :
    Calls Try.prog 104 #[.int .i64 x, .int .i64 y, .pointer (some ⟨box, 0, none⟩)] W fun e w' => e = .returned (.int .i64 (cmpL lv x y)) ∧ GR W w' := by
  obtain ⟨p9, c9, e9, _, hc⟩ := hs.open
  cases e9
  obtain ⟨a, ha⟩ := getElem?_some_of_lt hx
  obtain ⟨b, hb⟩ := getElem?_some_of_lt hy
  obtain ⟨g1, o1, e1, hL, hca⟩ := hc x a ha
  obtain ⟨g2, o2, e2, _, hcb⟩ := hc y b hb
  simp only [Option.some.injEq, Addr.mk.injEq, and_true] at e1 e2
  obtain ⟨rfl, rfl⟩ := e1
  obtain ⟨rfl, rfl⟩ := e2
  have ca : W.cell? ⟨p0, off + x, none⟩ = some (.int .i64 a) := by have := hca 0 _ rfl; simpa using this
  have cb : W.cell? ⟨p0, off + y, none⟩ = some (.int .i64 b) := by have := hcb 0 _ rfl; simpa using this
  have hLb : LtS box W := LtS.of_some hbox
  obtain ⟨a0, a1⟩ := hin a (List.mem_of_getElem? ha)
  obtain ⟨b0, b1⟩ := hin b (List.mem_of_getElem? hb)
  have hcmp : cmpL lv x y = or2 (a - b) ((y : Int) - x) := by
    unfold cmpL lvl0
    simp only [Int.toNat_natCast]
    rw [getD_of ha, getD_of hb]
  rw [hcmp]
  have x0 : (0 : Int) ≤ (x : Int) := by omega
  have y0 : (0 : Int) ≤ (y : Int) := by omega
  have xl : (x : Int) < (lv.length : Int) := by omega
  have yl : (y : Int) < (lv.length : Int) := by omega
  have hw1 : IntKind.i64.wrap (a - b) = a - b := IntWalk.i64_in _ ⟨by omega, by omega⟩
  have hw2 : IntKind.i64.wrap ((y : Int) - (x : Int)) = (y : Int) - (x : Int) := IntWalk.i64_in _ ⟨by omega, by omega⟩
  clear hc hca hcb ha hb hs hcmp
  go_enter Try.func104, Try.ntmps104
  go_wp2_with fail
  go_region_held3 (fun w' => (∀ n i, ∀ [LtS n W], w'.cell? ⟨n, i, none⟩ = W.cell? ⟨n, i, none⟩) ∧ GR W w') ((refine S_of_gr ?_; (repeat (first | exact GR.refl _ | refine GR.alloc ?_ _ | refine GR.drew ?_)); done)) ((go_at_call 105; refine (cmpOr2 (a - b) ((y : Int) - x) _ _ (by first | (go_simp; done) | (go_simp; exact hw1)) (by first | (go_simp; done) | (go_simp; exact hw2))).mono ?_; rintro e w' ⟨rfl, rfl⟩))
  all_goals
    go_wp2_with fail
    go_ret
    refine ⟨rfl, ?_⟩
    repeat (first | exact GR.refl _ | refine GR.alloc ?_ _ | refine GR.drew ?_)
theorem extract_all {α : Type} (d : Array α) {m : Nat} (h : d.size = m) : d.extract 0 m = d := by subst h; simp
theorem fin_perm {n : Nat} {d' : Array (Fin n)} [Inhabited (Fin n)] (h : PermIn 0 n (Array.ofFn fun i : Fin n => i) d') : ∀ x : Int, x ∈ d'.toList.map (fun i : Fin n => ((i.val : Nat) : Int)) ↔ ∃ i : Nat, i < n ∧ x = i := by
  intro x
  have hs : d'.size = n := by rw [h.1]; simp
  have hp := h.2.2
  have e1 := extract_all d' hs
  have e2 := extract_all (Array.ofFn fun i : Fin n => i) (m := n) (by simp)
  rw [e1, e2] at hp
  rw [List.mem_map]
  constructor
  · rintro ⟨i, _, rfl⟩
    exact ⟨i.val, i.isLt, rfl⟩
  · rintro ⟨i, hi, rfl⟩
    refine ⟨⟨i, hi⟩, hp.mem_iff.2 ?_, rfl⟩
    simp [Array.mem_ofFn]
theorem fin_sorted {n : Nat} {lv : List Int} {d' : Array (Fin n)} [Inhabited (Fin n)] (hp : PermIn 0 n (Array.ofFn fun i : Fin n => i) d') (hs : SortedIn (Go.Proofs.ltOf fun x y : Fin n => cmpL lv x.val y.val) 0 n d') : (d'.toList.map (fun i : Fin n => ((i.val : Nat) : Int))).Pairwise (lvLt lv) := by
  have hsz : d'.size = n := by rw [hp.1]; simp
  have e1 := extract_all d' hsz
  have e2 := extract_all (Array.ofFn fun i : Fin n => i) (m := n) (by simp)
  have hperm := hp.2.2
  rw [e1, e2] at hperm
  have hnd : d'.toList.Nodup := by
    refine hperm.nodup_iff.2 ?_
    rw [List.nodup_iff_pairwise_ne, List.pairwise_iff_getElem]
    intro i j hi hj hij
    simp
    omega
  rw [List.pairwise_map, List.pairwise_iff_getElem]
  intro i j hi hj hij
  have hi' : i < d'.size := by simpa using hi
  have hj' : j < d'.size := by simpa using hj
  have h1 := hs i j (Nat.zero_le _) hij (by omega)
  rw [getElem!_pos d' j hj', getElem!_pos d' i hi'] at h1
  have hne : d'.toList[i] ≠ d'.toList[j] := (List.pairwise_iff_getElem.1 hnd) i j (by simpa using hi') (by simpa using hj') hij
  simp only [Array.getElem_toList] at hne ⊢
  have hv : (d'[i]).val ≠ (d'[j]).val := fun e => hne (Fin.ext e)
  have h2 : ¬ lvLt lv ((d'[j]).val : Int) ((d'[i]).val : Int) := by
    rw [← cmpL_lt]
    simpa [Go.Proofs.ltOf] using h1
  unfold lvLt at *
  omega
def rangeI (k : Nat) : List Int := (List.range k).map fun i : Nat => (i : Int)
theorem rangeI_length (k : Nat) : (rangeI k).length = k := by simp [rangeI]
theorem rangeI_succ (k : Nat) : rangeI (k + 1) = rangeI k ++ [(k : Int)] := by simp [rangeI, List.range_succ]
theorem flatIL (l : List Int) : l.flatMap encI = l.map (Value.int .i64) := by
  induction l with
  | nil => rfl
  | cons x l ih => simpa [encI, List.flatMap_cons] using ih
theorem swoL (lv : List Int) (n : Nat) : SWO (Go.Proofs.ltOf fun x y : Fin n => cmpL lv x.val y.val) where
  irrefl x := by
    have : ¬ cmpL lv x.val x.val < 0 := by rw [cmpL_lt]; unfold lvLt; omega
    simpa [Go.Proofs.ltOf] using this
  trans x y z h1 h2 := by
    simp only [Go.Proofs.ltOf, decide_eq_true_eq] at *
    rw [cmpL_lt] at *
    unfold lvLt at *; omega
  ntrans x y z h1 h2 := by
    simp only [Go.Proofs.ltOf, decide_eq_false_iff_not] at *
    rw [cmpL_lt] at *
    unfold lvLt at *; omega
theorem holdsR {e lo g n cap : Nat} {w : World} [Inhabited (Fin n)] (h : Own encI e 1 lo w (.slice (some ⟨g, 0, none⟩) n cap) (rangeI n)) : Holds (fun i : Fin n => Value.int .i64 (i.val : Int)) w g 0 (Array.ofFn fun i : Fin n => i) := by
  intro j hj
  have hj' : j < n := by simpa using hj
  have h' : w.ownsRow lo e 1 (.slice (some ⟨g, 0, none⟩) n cap) n ((rangeI n).flatMap encI) := by
    have h2 : w.ownsRow lo e 1 (.slice (some ⟨g, 0, none⟩) n cap) (rangeI n).length ((rangeI n).flatMap encI) := h
    rw [rangeI_length] at h2
    exact h2
  have hc := h'.cellAt j (by omega)
  refine ⟨?_, h'.frozenAt (0 + j)⟩
  rw [Nat.zero_add, hc, flatIL, getElem!_pos _ j hj]
  simp [rangeI, hj']
set_option maxRecDepth 100000 in
set_option maxHeartbeats 1000000 in
theorem sortLv (lv : List Int) (n : Nat) (hn : n = lv.length) (h0 : 0 < n) (hlen : lv.length ≤ 10) (hin : ∀ a ∈ lv, 0 ≤ a ∧ a ≤ 1000) (g c box p0 cl lo lo' : Nat) (W : World) (ho : Own encI 3 1 lo W (.slice (some ⟨g, 0, none⟩) n c) (rangeI n)) (hl : Own encI 3 1 lo' W (.slice (some ⟨p0, 0, none⟩) n cl) lv) (hbox : W.cell? ⟨box, 0, none⟩ = some (.slice (some ⟨p0, 0, none⟩) n cl)) (h1 : box ≠ g) (h2 : p0 ≠ g) :
    Calls Try.prog 103 #[.slice (some ⟨g, 0, none⟩) n c, .func (.func 104) #[] #[.pointer (some ⟨box, 0, none⟩)]] W fun e w' => e = .returned (.tuple #[]) ∧ W.grownBy w' (some g) ∧ ∃ m : List Int, m.length = n ∧ (∀ x, x ∈ m ↔ ∃ i : Nat, i < n ∧ x = i) ∧ m.Pairwise (lvLt lv) ∧ Own encI 3 1 lo w' (.slice (some ⟨g, 0, none⟩) n c) m := by
  haveI : Inhabited (Fin n) := ⟨⟨0, h0⟩⟩
  have hd : (Array.ofFn fun i : Fin n => i).size = n := by simp
  have eg : ∀ args w, (callFunc 104 args).run Try.prog w = .ok (.enter 104 args) w := enters_of Try.func104 (by kernel_rfl) rfl
  have ho' : W.ownsRow lo 3 1 (.slice (some ⟨g, 0, none⟩) n c) n ((rangeI n).flatMap encI) := by
    have h2 : W.ownsRow lo 3 1 (.slice (some ⟨g, 0, none⟩) n c) (rangeI n).length ((rangeI n).flatMap encI) := ho
    rw [rangeI_length] at h2
    exact h2
  have hblk : g < W.heap.size := (World.ownsRow.lt ho' g rfl).2
  have hbl : box < W.heap.size := World.block_lt_of_cell? W ⟨box, 0, none⟩ hbox
  have hcmp : CmpLays1 Try.prog 104 #[.pointer (some ⟨box, 0, none⟩)] (fun i : Fin n => Value.int .i64 (i.val : Int)) (fun x y : Fin n => cmpL lv x.val y.val) g 0 (Array.ofFn fun i : Fin n => i).size W := by
    intro m os dk _ x y
    have hgb := grownBy_putL (fun i : Fin n => Value.int .i64 (i.val : Int)) (w := W) (g := g) (n := m) (os := os) dk
    have hb := hgb.block box hbl (by intro e; cases e; exact h1 rfl)
    have hl2 : Own encI 3 1 lo' (sortWorld (fun i : Fin n => Value.int .i64 (i.val : Int)) W g 0 m dk os) (.slice (some ⟨p0, 0, none⟩) n cl) lv := Own.kept hl hgb (.inr (by intro e; simp [Value.ownBlock] at e; exact h2 e))
    have hc2 : (sortWorld (fun i : Fin n => Value.int .i64 (i.val : Int)) W g 0 m dk os).cell? ⟨box, 0, none⟩ = some (.slice (some ⟨p0, 0, none⟩) n cl) := by
      rw [← hbox]
      show (grow (putRow _ (Sort.ahead W m) g 0 dk) os).cell? _ = _
      simp only [World.cell?, hb]
    subst hn
    exact levelCmp_any lv box p0 0 cl x.val y.val _ x.isLt y.isLt hlen hin hc2 (hl2.sl encI_length)
  have hcon := Any.slices_SortFunc Try.sortInt (fun i : Fin n => Value.int .i64 (i.val : Int)) (fun _ => rfl) (fun x y : Fin n => cmpL lv x.val y.val) (swoL lv n) 104 #[.pointer (some ⟨box, 0, none⟩)] g 0 c (Array.ofFn fun i : Fin n => i) W eg hcmp (holdsR ho) hblk (by rw [hd]; omega)
  rw [hd] at hcon
  refine hcon.mono ?_
  rintro e w' ⟨he, d', q, os, hp, hs, rfl⟩
  have hdl : d'.size = n := by rw [hp.1]; simp
  have hr := ownsRow_putL (fun i : Fin n => Value.int .i64 (i.val : Int)) (n := q) os d' ho' (by omega)
  refine ⟨he, grownBy_putL _ _, d'.toList.map (fun i : Fin n => ((i.val : Nat) : Int)), by simp [hdl], fin_perm hp, fin_sorted hp hs, ?_⟩
  show World.ownsRow _ _ _ _ _ _ _
  rw [flatIL, List.length_map, Array.length_toList, hdl, List.map_map]
  exact hr
end Go.Proofs.Ytkboefmkfpnpjaa
namespace Go.Proofs.Ytkboefmkfpnpjaa
open Go Go.RowKit Go.Proofs

theorem Own.ne' {α : Type} {enc : α → List Value} {e sz lo : Nat} {w : World} {v : Value} {l : List α} (h : Own enc e sz lo w v l) (hne : l ≠ []) : ∃ g c, v = .slice (some ⟨g, 0, none⟩) l.length c := by
  rcases h.2 with ⟨_, hn⟩ | ⟨g, cap, cur, hv, _⟩
  · exact absurd (List.eq_nil_of_length_eq_zero hn) hne
  · exact ⟨g, cap, hv⟩
set_option maxRecDepth 100000 in
set_option maxHeartbeats 1000000 in
theorem iLevelOrder_any (l : List Actn) (v : Value) (w : World) (h : SL (RF Actn.enc) 4 w v l) :
    Calls Try.prog 47 #[v] w fun e w' => ∃ v', e = .returned v' ∧ Up w w' ∧ Own encI 3 1 w.heap.size w' v' (lvoR l) := by
  have H := Lib.hid h; clear h
  have ks := fun w v h => iLevelsOf_any l v w h
  have hlen := lvlR_le l
  have hin := Lib.hid (lvlR_in l)
  have hu := Lib.hid (fun m => lvoR_unique l (m := m))
  have hz : (lvlR l).length = 0 → lvoR l = [] := by
    intro e
    show lvRows _ _ = _
    rw [e]; rfl
  generalize hO : lvoR l = lo at *
  generalize lvlR l = lv at *
  clear hO
  go_enter Try.func47, Try.ntmps47
  go_wp2_with fail
  refine (ks _ _ (H.out.up (by repeat (first | (with_reducible exact Ext.refl _) | (with_reducible refine Ext.up ?_ _) | (with_reducible refine Ext.alloc ?_ _) | (with_reducible refine Ext.drew ?_) | (with_reducible refine Ext.setRow ?_ (by first | exact LeS.le | exact LeS.add _ | (simp; done) | (simp; omega)) _) | (with_reducible refine Ext.setCell ?_ (by first | exact LeS.le | exact LeS.add _ | (simp; done) | (simp; omega)) _))))).mono ?_; rintro e w' ⟨y, rfl, ⟨z1, rfl⟩, oy⟩
  obtain ⟨p, c, rfl, _, _⟩ := (oy.sl encI_length).openc
  have OY := Lib.hid oy; clear oy
  go_wp2_with fail
  go_loopw [4, 5, 10] (fun s4 _ s10 wr => ∃ (k : Nat), s10 = .int .i64 k ∧ k ≤ lv.length ∧ Up (z1.val.alloc (.cells #[.slice p lv.length c] 42)) wr ∧ Own encI 3 1 (z1.val.heap.size + 1) wr s4 (rangeI k)) (fun _ _ s10 _ => lv.length - (intOf s10).toNat)
  case atStart => exact ⟨0, rfl, Nat.zero_le _, (.of (by repeat (first | (with_reducible exact Ext.refl _) | (with_reducible refine Ext.up ?_ _) | (with_reducible refine Ext.alloc ?_ _) | (with_reducible refine Ext.drew ?_) | (with_reducible refine Ext.setRow ?_ (by first | exact LeS.le | exact LeS.add _ | (simp; done) | (simp; omega)) _) | (with_reducible refine Ext.setCell ?_ (by first | exact LeS.le | exact LeS.add _ | (simp; done) | (simp; omega)) _)))), Own.nil _ _ _ _ _⟩
  case round =>
    obtain ⟨k, rfl, hk, ⟨z, rfl⟩, hown⟩ := hrel
    have HO := Lib.hid hown; clear hown
    by_cases hlt : k < lv.length
    · have hrl : (rangeI k).length ≤ 10 := by rw [rangeI_length]; omega
      have hsz : z1.val.heap.size + 1 ≤ z.val.heap.size := by have := z.ext.size; simpa using this
      go_wp2_with (at_builtin; refine wpList_pushG fI rfl (.tmp 13) (.tmp 15) rfl encI encI_length (z1.val.alloc (.cells #[.slice p lv.length c] 42)) (lo := z1.val.heap.size + 1) [(k : Int)] (rangeI k) rfl (HO.out.up (by repeat (first | (with_reducible exact Ext.refl _) | (with_reducible refine Ext.up ?_ _) | (with_reducible refine Ext.alloc ?_ _) | (with_reducible refine Ext.drew ?_) | (with_reducible refine Ext.setRow ?_ (by first | exact LeS.le | exact LeS.add _ | (simp; done) | (simp; omega)) _) | (with_reducible refine Ext.setCell ?_ (by first | exact LeS.le | exact LeS.add _ | (simp; done) | (simp; omega)) _)))) (by repeat (first | (with_reducible exact Ext.refl _) | (with_reducible refine Ext.up ?_ _) | (with_reducible refine Ext.alloc ?_ _) | (with_reducible refine Ext.drew ?_) | (with_reducible refine Ext.setRow ?_ (by first | exact LeS.le | exact LeS.add _ | (simp; done) | (simp; omega)) _) | (with_reducible refine Ext.setCell ?_ (by first | exact LeS.le | exact LeS.add _ | (simp; done) | (simp; omega)) _))) (by simp) hsz rfl (by rfl) (by go_simp) rfl (oneIs' _) (by simp; omega) (by simp; omega) ?_; intro v7 z7 o7 _ _)
      have HO7 := Lib.hid o7; clear o7
      go_wp2_with fail
      go_roundw
      case rel => exact ⟨k + 1, by go_num, by omega, ⟨z7, rfl⟩, by rw [rangeI_succ]; exact HO7.out⟩
      case measure => simp [intOf] <;> omega
    · obtain rfl : k = lv.length := by omega
      by_cases hn : lv.length = 0
      · have hlo := hz hn
        subst hlo
        obtain rfl : lv = [] := List.eq_nil_of_length_eq_zero hn
        obtain ⟨p4, c4, rfl, _, _⟩ := (HO.out.sl encI_length).openc
        have HO2 := Lib.hid (show Own encI 3 1 (z1.val.heap.size + 1) z.val (.slice p4 0 c4) [] from HO.out)
        rw [show (rangeI ([] : List Int).length).length = 0 from rfl]
        go_wp2_with fail
        refine (AnyF.slices_SortFunc_none { Try.sortInt with } p4 c4 _ _).mono ?_; rintro e w' ⟨rfl, rfl⟩
        go_wp2_with fail
        go_ret
        exact ⟨_, rfl, (.of (by repeat (first | (with_reducible exact Ext.refl _) | (with_reducible refine Ext.up ?_ _) | (with_reducible refine Ext.alloc ?_ _) | (with_reducible refine Ext.drew ?_) | (with_reducible refine Ext.setRow ?_ (by first | exact LeS.le | exact LeS.add _ | (simp; done) | (simp; omega)) _) | (with_reducible refine Ext.setCell ?_ (by first | exact LeS.le | exact LeS.add _ | (simp; done) | (simp; omega)) _)))), Own.lo HO2.out (by have := z1.ext.size; omega)⟩
      · obtain ⟨g, c4, rfl⟩ := Own.ne' HO.out (by intro e; have := congrArg List.length e; rw [rangeI_length] at this; simp at this; exact hn (by rw [this]; rfl))
        obtain ⟨p0, cl, e0⟩ := Own.ne' OY.out (by intro e; rw [e] at hn; exact hn rfl)
        cases e0
        have hbox : z.val.cell? ⟨z1.val.heap.size, 0, none⟩ = some (.slice (some ⟨p0, 0, none⟩) lv.length c) := by go_simp
        have hg := (World.ownsRow.lt HO.out g rfl).1
        have hp := (World.ownsRow.lt OY.out p0 rfl).2
        rw [rangeI_length]
        have HO2 := Lib.hid (show Own encI 3 1 (z1.val.heap.size + 1) z.val (.slice (some ⟨g, 0, none⟩) lv.length c4) (rangeI lv.length) by have := HO.out; rw [rangeI_length] at this; exact this)
        go_wp2_with fail
        refine (sortLv lv lv.length rfl (by omega) hlen (fun a ha => by have := hin.out a ha; omega) g c4 z1.val.heap.size p0 c _ _ _ HO2.out (OY.out.up (by repeat (first | (with_reducible exact Ext.refl _) | (with_reducible refine Ext.up ?_ _) | (with_reducible refine Ext.alloc ?_ _) | (with_reducible refine Ext.drew ?_) | (with_reducible refine Ext.setRow ?_ (by first | exact LeS.le | exact LeS.add _ | (simp; done) | (simp; omega)) _) | (with_reducible refine Ext.setCell ?_ (by first | exact LeS.le | exact LeS.add _ | (simp; done) | (simp; omega)) _)))) hbox (by omega) (by omega)).mono ?_; rintro e w' ⟨rfl, hgr, m, hml, hmm, hms, hmo⟩
        have hm := hu.out m hmm hms
        subst hm
        have E : Ext w w' := Ext.grown (b := z.val) (by repeat (first | (with_reducible exact Ext.refl _) | (with_reducible refine Ext.up ?_ _) | (with_reducible refine Ext.alloc ?_ _) | (with_reducible refine Ext.drew ?_) | (with_reducible refine Ext.setRow ?_ (by first | exact LeS.le | exact LeS.add _ | (simp; done) | (simp; omega)) _) | (with_reducible refine Ext.setCell ?_ (by first | exact LeS.le | exact LeS.add _ | (simp; done) | (simp; omega)) _))) hgr (fun k hk => by cases hk; have := z1.ext.size; omega)
        have HM := Lib.hid (Own.lo (lo' := w.heap.size) hmo (by have := z1.ext.size; omega))
        clear hgr hmo
        go_wp2_with fail
        go_ret
        exact ⟨_, rfl, .of E, HM.out⟩
end Go.Proofs.Ytkboefmkfpnpjaa
namespace Go.Proofs.Ytkboefmkfpnpjaa
open Go Go.RowKit Go.Proofs

theorem step_catW {P : Program} {t e sz bytes : Nat} (F : AppFacts P t e sz bytes) {ops : Array Oper} {o : Oper} {a : Act} {K : Act → World → Prop} {Q : Exit → Act → World → Prop} {E : Prop} (hw : Region.wanted o (yielded ops a.tmps) = true) (s x : Operand)
    (ho : o.op = .call { callee := .builtin .append, args := #[s, x], argTypes := #[t, t] }) {α : Type} (enc : α → List Value) (he : ∀ x, (enc x).length = sz) (Wb : World) {lo : Nat} {w : World} (ys : List α) (l : List α) {v vx : Value} (hs : a.eval s = v)
    (hx : a.eval x = vx) (hown : Own enc e sz lo w v l) (hE : Ext Wb w) (hlo : Wb.heap.size ≤ lo) (hlo' : lo ≤ w.heap.size) (hys : SL (RF enc) sz w vx ys)
    (h1 : ∀ u ∈ ys.flatMap enc, u.oneCell' = true) (hb : (l.length + ys.length) * bytes ≤ 140737488355328) (hb' : l.length + ys.length ≤ 9223372036854775807)
    (h : ∀ v' (z1 : Extd Wb), Own enc e sz lo z1.val v' (l ++ ys) → w.grownBy z1.val v.ownBlock → (v'.ownBlock = v.ownBlock ∨ v'.ownBlock = some w.heap.size) → K (a.put o.dst v') z1.val) :
    if Region.wanted o (yielded ops a.tmps) = true then Oper.wp P o a w K Q else E := by
  rw [if_pos hw]
  obtain ⟨i, z, hi, hz, hsize, hby, hzs⟩ := F.info
  have hown' : w.ownsRow lo e sz v l.length (l.flatMap enc) := hown
  obtain ⟨p, c, rfl, _, hc⟩ := hys.open
  rcases p with _ | ad
  · obtain rfl : ys = [] := by
      cases ys with
      | nil => rfl
      | cons y ys => obtain ⟨_, _, e2, _⟩ := hc 0 y rfl; cases e2
    have hrun := run_append_none (P := P) (w := w) lo t o.type e i sz F.und hi v l.length c _ hown'
    unfold Oper.wp
    simp [execOp, ho, resolve, invoke, builtin, hs, hx, hrun, Result.andThen]
    exact h v ⟨w, hE⟩ (by rw [List.append_nil]; exact hown) ⟨rfl, rfl, rfl, Nat.le_refl _, fun _ _ _ => rfl⟩ (.inl rfl)
  · obtain ⟨v', w1, hr, h2, h3, h4, h5⟩ := run_append_own_at (P := P) w lo t o.type e i z sz bytes F.und hi hz hsize hby hzs F.pos v l.length (l.flatMap enc) hown' ad ys.length c (ys.flatMap enc) (flatMap_length he ys) (fun j u hu => by
      have hj := (List.getElem?_eq_some_iff.1 hu).1
      have h0 : 0 < ys.length := by
        cases ys with
        | nil => simp at hj
        | cons y ys => simp
      obtain ⟨y, hy⟩ := getElem?_some_of_lt (l := ys) (k := 0) h0
      obtain ⟨b, off, e2, _⟩ := hc 0 y hy
      cases e2
      have e1 : (⟨b, off, none⟩ : Addr).add j = ⟨b, off + j, none⟩ := by unfold Addr.add; split <;> simp_all
      rw [e1]
      exact SL.flatC he hys j u hu) h1 (by simpa [maxLen] using hb') hb hlo'
    unfold Oper.wp execOp
    simp only [ho, resolve, invoke, builtin, Sem.run_bind, Sem.run_pure, Result.andThen_ok, List.map_toArray, List.map_cons, List.map_nil, hs, hx, hr]
    refine h v' ⟨w1, hE.grown h3 fun k hk => Nat.le_trans hlo (World.ownsRow.lt hown' k hk).1⟩ ?_ h3 h5
    show w1.ownsRow _ _ _ _ _ _
    simpa [Own] using h2
theorem step_catA {P : Program} {t e sz bytes : Nat} (F : AppFacts P t e sz bytes) {ops : Array Oper} {o : Oper} {a : Act} {K : Act → World → Prop} {Q : Exit → Act → World → Prop} {E : Prop} (hgd : o.guard = none) (s x : Operand)
    (ho : o.op = .call { callee := .builtin .append, args := #[s, x], argTypes := #[t, t] }) {α : Type} (enc : α → List Value) (he : ∀ x, (enc x).length = sz) (Wb : World) {lo : Nat} {w : World} (ys : List α) (l : List α) {v vx : Value} (hs : a.eval s = v)
    (hx : a.eval x = vx) (hown : Own enc e sz lo w v l) (hE : Ext Wb w) (hlo : Wb.heap.size ≤ lo) (hlo' : lo ≤ w.heap.size) (hys : SL (RF enc) sz w vx ys)
    (h1 : ∀ u ∈ ys.flatMap enc, u.oneCell' = true) (hb : (l.length + ys.length) * bytes ≤ 140737488355328) (hb' : l.length + ys.length ≤ 9223372036854775807)
    (h : ∀ v' (z1 : Extd Wb), Own enc e sz lo z1.val v' (l ++ ys) → w.grownBy z1.val v.ownBlock → (v'.ownBlock = v.ownBlock ∨ v'.ownBlock = some w.heap.size) → K (a.put o.dst v') z1.val) :
    if Region.wanted o (yielded ops a.tmps) = true then Oper.wp P o a w K Q else E := step_catW F (by simp [Region.wanted, hgd]) s x ho enc he Wb ys l hs hx hown hE hlo hlo' hys h1 hb hb' h
/-- The first j elements are the call's own too. -/
theorem Own.first {α : Type} {enc : α → List Value} {e sz lo : Nat} (he : ∀ x, (enc x).length = sz) {w : World} {p : Option Addr} {n c : Nat} {l : List α} (h : Own enc e sz lo w (.slice p n c) l) {j : Nat} (hj : j ≤ l.length) : Own enc e sz lo w (.slice p j c) (l.take j) := by
  have hl : (l.take j).length = j := by rw [List.length_take]; omega
  have hf : (l.take j).flatMap enc = (l.flatMap enc).take (j * sz) := by
    have e1 : l.flatMap enc = (l.take j).flatMap enc ++ (l.drop j).flatMap enc := by rw [← List.flatMap_append, List.take_append_drop]
    rw [e1, List.take_left' (by rw [flatMap_length he, hl])]
  show w.ownsRow lo e sz _ _ _
  rw [hl, hf]
  refine ⟨by rw [List.length_take, flatMap_length he, Nat.min_eq_left (Nat.mul_le_mul_right _ hj)], ?_⟩
  rcases h.2 with ⟨h1, h2⟩ | ⟨g, cap, cur, hv, hlo, hg, hnc, hcm, hcs, ht⟩
  · cases h1
    left; exact ⟨by rw [show j = 0 by omega], by omega⟩
  · cases hv
    right
    refine ⟨g, c, cur, rfl, hlo, hg, by omega, hcm, hcs, ?_⟩
    rw [← ht, List.take_take, Nat.min_eq_left (Nat.mul_le_mul_right _ hj)]
/-- The elements from j on. -/
theorem SL.rest {α : Type} {R : World → List Value → α → Prop} {sz : Nat} {w : World} {b off n cap : Nat} {l : List α} (h : SL R sz w (.slice (some ⟨b, off, none⟩) n cap) l) {j : Nat} (hj : j ≤ l.length) {m c : Nat} (hm : m = l.length - j) (hc : m ≤ c) {o : Nat} (ho : o = off + j * sz) : SL R sz w (.slice (some ⟨b, o, none⟩) m c) (l.drop j) := by
  subst hm; subst ho
  obtain ⟨a', cap', hv, hl, hcc⟩ := h
  cases hv
  have e : (l.drop j).length = l.length - j := List.length_drop
  refine ⟨_, c, by rw [e], ⟨by rw [e]; omega, by rw [e]; exact hc⟩, fun hne => ?_⟩
  obtain ⟨b', off', ha, hb, hx⟩ := hcc (by intro e0; subst e0; simp at hne)
  cases ha
  refine ⟨b, off + j * sz, rfl, hb, fun i x hi => ?_⟩
  rw [List.getElem?_drop] at hi
  obtain ⟨cs, h1, h2, h3⟩ := hx (j + i) x hi
  refine ⟨cs, h1, fun q u hu => ?_, h3⟩
  rw [← h2 q u hu]
  congr 2
  rw [Nat.add_mul]; omega
end Go.Proofs.Ytkboefmkfpnpjaa
