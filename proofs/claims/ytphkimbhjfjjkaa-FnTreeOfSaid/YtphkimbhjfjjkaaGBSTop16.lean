/- Walks: slices.Reverse at numbers; ways to blocks, the program's side. The laws of trees: walks: blocks that are found, ways. The law FnExactPathTo's walk. Plain laws: ways in a valid tree; blocks that are found. Plain ground: the operations of a region, one by one. -/
import Derived.Test.YtphkimbhjfjjkaaGBSTop15
import Derived.Shelf.RegionOpenPlain
import Derived.Sort.WalkB12
import Derived.Lib.SlicesMore
import Derived.Sort.Grow
import Derived.Test.YtphkimbhjfjjkaaGBSTop08
set_option linter.unusedSimpArgs false
set_option linter.unusedVariables false
namespace Go.Proofs.Ytphkimbhjfjjkaa
open Go Go.RowKit Go.Proofs Go.Lib Go.Sort

theorem take_put {α : Type} [Inhabited α] (enc : α → Value) (cur : Array Value) (d : Array α) (h : d.size ≤ cur.size) : (putCells enc 0 d cur).toList.take d.size = d.toList.map enc := by
  apply List.ext_getElem?
  intro j
  by_cases hj : j < d.size
  · rw [List.getElem?_take_of_lt hj, Array.getElem?_toList]
    simp [putCells, hj, show j < cur.size by omega]
  · rw [List.getElem?_take_eq_none (by omega), List.getElem?_eq_none (by simp; omega)]
/-- A row of the call's own with other cells. -/
theorem ownsRow_put {α : Type} [Inhabited α] (enc : α → Value) {w : World} {base e sz n : Nat} {g m cap : Nat} {xs : List Value} (os : Array Obj) (d : Array α) (h : w.ownsRow base e sz (.slice (some ⟨g, 0, none⟩) m cap) m xs) (hd : d.size = m * sz) :
    (grow (putRow enc (Sort.ahead w n) g 0 d) os).ownsRow base e sz (.slice (some ⟨g, 0, none⟩) m cap) m (d.toList.map enc) := by
  rcases h.2 with ⟨h0, _⟩ | ⟨g', cap', cur, hv, hbase, hb, h1, h2, h3, _⟩
  · cases h0
  · cases hv
    have hg : g < w.heap.size := (Array.getElem?_eq_some_iff.1 hb).1
    refine ⟨by simp [hd], .inr ⟨g, cap, putCells enc 0 d cur, rfl, hbase, ?_, h1, h2, by simp [putCells, h3], ?_⟩⟩
    · rw [heap_grow_old _ _ (by simpa using hg)]
      simp [putRow, mapBlock, Sort.ahead, Array.getElem?_modify, hb, onCells]
    · rw [← hd]
      refine take_put enc cur d ?_
      rw [h3, hd]; exact Nat.mul_le_mul_right _ h1
theorem grownBy_put {α : Type} [Inhabited α] (enc : α → Value) {w : World} {g n : Nat} {os : Array Obj} (d : Array α) : w.grownBy (grow (putRow enc (Sort.ahead w n) g 0 d) os) (some g) := by
  refine ⟨rfl, rfl, rfl, by simp, fun k hk hne => ?_⟩
  rw [heap_grow_old _ _ (by simpa using hk)]
  have : g ≠ k := fun e => hne (by rw [e])
  simp [putRow, mapBlock, Sort.ahead, Array.getElem?_modify, this]
theorem holds_own {e lo : Nat} {w : World} {g cap : Nat} {l : List Int} (h : Own encI e 1 lo w (.slice (some ⟨g, 0, none⟩) l.length cap) l) : Holds (Value.int .i64) w g 0 l.toArray := by
  intro j hj
  have hj' : j < l.length := by simpa using hj
  have h' : w.ownsRow lo e 1 (.slice (some ⟨g, 0, none⟩) l.length cap) l.length (l.flatMap encI) := h
  have hc := h'.cellAt j (show j < l.length * 1 by omega)
  refine ⟨?_, h'.frozenAt (0 + j)⟩
  rw [Nat.zero_add, hc, show l.flatMap encI = l.map (Value.int .i64) from by
    clear hj hj' hc h h'
    induction l with
    | nil => rfl
    | cons x l ih => simpa [encI, List.flatMap_cons] using ih]
  simp [hj']
theorem flatI (l : List Int) : l.flatMap encI = l.map (Value.int .i64) := by
  induction l with
  | nil => rfl
  | cons x l ih => simpa [encI, List.flatMap_cons] using ih
set_option maxHeartbeats 1600000 in
set_option maxRecDepth 1000000 in
theorem reverse_arr (blk off cap : Nat) (d : Array Int) (w : World) (hH : Holds (Value.int .i64) w blk off d) (hsz : d.size ≤ 9223372036854775807) :
    Calls Try.prog 123 #[.slice (some ⟨blk, off, none⟩) d.size cap] w fun e w' => e = .returned (.tuple #[]) ∧ ∃ n, w' = putRow (Value.int .i64) (Sort.ahead w n) blk off d.reverse := by
  have mixed : (Try.prog).follows .mixedOrders = true := by kernel_rfl
  go_enter Try.func123, Try.ntmps123
  go_wp2
  go_loopg [2, 3] d.size (fun k s2 s3 wr => ∃ (i jn : Nat) (jz : Int) (dk : Array Int) (n : Nat), s2 = .int .i64 i ∧ s3 = .int .i64 jz ∧ ((i : Int) < jz → jz = jn ∧ jn < d.size) ∧ (¬ (i : Int) < jz → ¬ i < jn) ∧ jn - i ≤ k ∧
    dk.size = d.size ∧ wr = putRow (Value.int .i64) (Sort.ahead w n) blk off dk ∧ reverseLoop i jn dk = reverseLoop 0 (d.size - 1) d)
  case atStart => exact ⟨0, d.size - 1, (d.size : Int) - 1, d, 0, rfl, rfl, fun h => ⟨by omega, by omega⟩, fun h => by omega, by omega, rfl, (putRow_self (Value.int .i64) w blk off d hH).symm, rfl⟩
  case round =>
    obtain ⟨i, jn, jz, dk, n, rfl, rfl, h1, h2, hk, hds, hwr, heq⟩ := hrel
    by_cases hlt : (i : Int) < jz
    · obtain ⟨rfl, hjn⟩ := h1 hlt
      have hij : i < jn := by omega
      have hHk : Holds (Value.int .i64) wr blk off dk := by rw [hwr]; exact holds_putRow (Value.int .i64) _ blk off d dk (holds_ahead (Value.int .i64) w n blk off d hH) hds
      have hid : i < d.size := by omega
      obtain ⟨ci, fi⟩ := hHk i (by omega)
      obtain ⟨cj, fj⟩ := hHk jn (by omega)
      have A := Lib.hid hwr
      clear hwr hHk hH h1 h2
      go_wp2_with fail
      go_region_o
      go_wp2
      go_roundg (jn - 1 - (i + 1))
      case measure => omega
      case rel =>
        rw [reverseLoop, if_pos hij] at heq
        exact ⟨i + 1, jn - 1, (jn : Int) - 1, swp dk i jn, n + 1, by simp, rfl, fun h => ⟨by omega, by omega⟩, fun h => by omega, Nat.le_refl _, by rw [size_swp]; exact hds,
          swap_world (Value.int .i64) (by omega) (by omega) A.out (by first | rfl | simp [getElem!_pos, show jn < dk.size by omega]) (by first | rfl | simp [getElem!_pos, show i < dk.size by omega]), heq⟩
    · have hnot := h2 hlt
      go_wp2
      go_end0
      refine ⟨rfl, n, ?_⟩
      rw [reverseLoop, if_neg hnot] at heq
      rw [← Lib.reverseLoop_reverse, ← heq]
/-- A slice of the call's own is turned round. -/
theorem reverse_own {e lo : Nat} (l : List Int) (g cap : Nat) (w : World) (h : Own encI e 1 lo w (.slice (some ⟨g, 0, none⟩) l.length cap) l) :
    Calls Try.prog 123 #[.slice (some ⟨g, 0, none⟩) l.length cap] w fun e' w' => e' = .returned (.tuple #[]) ∧ w.grownBy w' (some g) ∧ Own encI e 1 lo w' (.slice (some ⟨g, 0, none⟩) l.length cap) l.reverse := by
  have hl : l.length ≤ 9223372036854775807 := by obtain ⟨_, _, _, h1, _⟩ := (h.sl encI_length).openc; exact h1
  have hc := reverse_arr g 0 cap l.toArray w (holds_own h) (by simpa using hl)
  refine hc.mono ?_
  rintro e' w' ⟨he, n, rfl⟩
  have h' : w.ownsRow lo e 1 (.slice (some ⟨g, 0, none⟩) l.length cap) l.length (l.flatMap encI) := h
  have h1 := ownsRow_put (Value.int .i64) (n := n) #[] l.toArray.reverse h' (by simp)
  have h2 := grownBy_put (Value.int .i64) (w := w) (g := g) (n := n) (os := #[]) l.toArray.reverse
  rw [grow_empty] at h1 h2
  refine ⟨he, h2, ?_⟩
  show World.ownsRow _ _ _ _ _ _ _
  rw [flatI, List.length_reverse]
  simpa using h1
set_option maxRecDepth 100000 in
set_option maxHeartbeats 1000000 in
theorem path_any (t : Tree) (v0 v1 v2 : Value) (n : Int) (w : World) (h : ST w v0 v1 v2 t) (ho : t.ok = true) (hn : hasN t n = true) :
    Calls Try.prog 92 #[.agg #[v0, v1, v2], .int .i64 n] w fun e w' => ∃ v', e = .returned v' ∧ Up w w' ∧ Own encI 3 1 w.heap.size w' v' (pathB t n) := by
  obtain ⟨p0, c0, rfl, _, _⟩ := h.base.openc
  obtain ⟨p1, c1, rfl, hl1, _⟩ := h.bs.openc
  obtain ⟨p2, c2, rfl, hlp, hcp⟩ := h.pr.open
  clear h
  have hp := Lib.hid (fun (i : Nat) (m : Int) (hm : t.pr[i]? = some m) => Tree.pr_lt ho hm)
  obtain ⟨hn0, hn1⟩ := inR_iff.1 (show inR n 0 ((t.bs.length : Int) - 1) = true from hn)
  have hl14 : t.bs.length ≤ 14 := (Tree.head_parts (Tree.ok_parts ho).1).2.1.2
  have hpl : t.pr.length = t.bs.length := (Tree.head_parts (Tree.ok_parts ho).1).2.2.1
  have HP := Lib.hid hcp
  have Hpl := Lib.hid hpl
  clear hcp hn ho hpl
  go_enter Try.func92, Try.ntmps92
  go_wp2_with fail
  go_loopw [1, 5] (fun s1 s5 wr => ∃ (m : Int) (f : Nat) (out : List Int), s1 = .int .i64 m ∧ -1 ≤ m ∧ m < t.bs.length ∧ m < f ∧ out ++ climb t.pr f m = climb t.pr t.bs.length n ∧ f + out.length = t.bs.length ∧ Up (w.alloc (.cells #[.slice p0 t.base.length c0, .slice p1 t.bs.length c1, .slice p2 t.pr.length c2] 42)) wr ∧ Own encI 3 1 (w.heap.size + 1) wr s5 out) (fun s1 _ _ => ((RowKit.intOf s1) + 1).toNat)
  case atStart => exact ⟨n, t.bs.length, [], rfl, by omega, by omega, by omega, by simp, by simp, (.of (by repeat (first | (with_reducible exact Ext.refl _) | (with_reducible refine Ext.up ?_ _) | (with_reducible refine Ext.alloc ?_ _) | (with_reducible refine Ext.drew ?_) | (with_reducible refine Ext.setRow ?_ (by first | exact LeS.le | exact LeS.add _ | (simp; done) | (simp; omega)) _) | (with_reducible refine Ext.setCell ?_ (by first | exact LeS.le | exact LeS.add _ | (simp; done) | (simp; omega)) _)))), Own.nil _ _ _ _ _⟩
  case round =>
    obtain ⟨m, f, out, rfl, hm0, hm1, hmf, hcl, hfo, ⟨z, rfl⟩, hown⟩ := hrel
    by_cases hneg : m < 0
    · have hout : out = climb t.pr t.bs.length n := by rw [← hcl, climb_neg t.pr f hneg, List.append_nil]
      subst hout
      have hge : ¬ 0 ≤ m := by omega
      have hne : climb t.pr t.bs.length n ≠ [] := by
        obtain ⟨k, hk⟩ : ∃ k, t.bs.length = k + 1 := ⟨t.bs.length - 1, by omega⟩
        have h2 : ¬ n < 0 := by omega
        rw [hk]; simp [climb, h2]
      obtain ⟨g, c, rfl⟩ := Own.ne hown hne
      have HO := Lib.hid hown
      clear hcl hown hne
      go_wp2_with fail
      refine (reverse_own (climb t.pr t.bs.length n) g c _ HO.out).mono ?_; rintro e w' ⟨rfl, hg, ho2⟩
      have E : Ext w w' := Ext.grown (b := z.val) (by repeat (first | (with_reducible exact Ext.refl _) | (with_reducible refine Ext.up ?_ _) | (with_reducible refine Ext.alloc ?_ _) | (with_reducible refine Ext.drew ?_) | (with_reducible refine Ext.setRow ?_ (by first | exact LeS.le | exact LeS.add _ | (simp; done) | (simp; omega)) _) | (with_reducible refine Ext.setCell ?_ (by first | exact LeS.le | exact LeS.add _ | (simp; done) | (simp; omega)) _))) hg (fun k hk => by cases hk; have := (World.ownsRow.lt HO.out g rfl).1; omega)
      have O2 := Lib.hid ho2
      clear hg ho2
      go_wp2_with fail
      go_ret
      refine ⟨_, rfl, .of E, ?_⟩
      have h3 := Own.lo O2.out (Nat.le_succ _)
      exact h3
    · obtain ⟨m', hm'⟩ := getElem?_some_of_lt (l := t.pr) (k := m.toNat) (by have := Hpl.out; omega)
      obtain ⟨b2, off2, rfl, hb2, hc2⟩ := HP.out m.toNat m' hm'
      have e0 : w.cell? ⟨b2, off2 + m.toNat, none⟩ = some (.int .i64 m') := by have := hc2 0 _ rfl; simpa using this
      obtain ⟨hm2, hm3⟩ := hp.out m.toNat m' hm'
      have m0 : 0 ≤ m := by omega
      have mp : m < (t.pr.length : Int) := by have := Hpl.out; omega
      obtain ⟨f', rfl⟩ : ∃ f', f = f' + 1 := ⟨f - 1, by omega⟩
      have hcl2 : (out ++ [m]) ++ climb t.pr f' m' = climb t.pr t.bs.length n := by rw [← hcl, climb_step m0 hm']; simp
      have Hcl := Lib.hid hcl2
      have HO := Lib.hid hown
      have hol : out.length ≤ 14 := by omega
      clear hown hcl hcl2 hm' hc2
      go_wp2_with (at_builtin; refine wpList_pushG fI rfl (.tmp 13) (.tmp 15) rfl encI encI_length (w.alloc (.cells #[.slice p0 t.base.length c0, .slice p1 t.bs.length c1, .slice (some ⟨b2, off2, none⟩) t.pr.length c2] 42)) [m] out rfl (HO.out.up (by repeat (first | (with_reducible exact Ext.refl _) | (with_reducible refine Ext.up ?_ _) | (with_reducible refine Ext.alloc ?_ _) | (with_reducible refine Ext.drew ?_) | (with_reducible refine Ext.setRow ?_ (by first | exact LeS.le | exact LeS.add _ | (simp; done) | (simp; omega)) _) | (with_reducible refine Ext.setCell ?_ (by first | exact LeS.le | exact LeS.add _ | (simp; done) | (simp; omega)) _)))) (by repeat (first | (with_reducible exact Ext.refl _) | (with_reducible refine Ext.up ?_ _) | (with_reducible refine Ext.alloc ?_ _) | (with_reducible refine Ext.drew ?_) | (with_reducible refine Ext.setRow ?_ (by first | exact LeS.le | exact LeS.add _ | (simp; done) | (simp; omega)) _) | (with_reducible refine Ext.setCell ?_ (by first | exact LeS.le | exact LeS.add _ | (simp; done) | (simp; omega)) _))) (by simp) (by have h1 := z.ext.size; simp at h1; omega) rfl (by rfl) (by go_simp) rfl (oneIs _) (by simp; omega) (by simp; omega) ?_; intro v6 z6 o6 _ b6)
      have O6 := Lib.hid o6; clear o6
      go_wp2_with fail
      go_roundw
      case rel => exact ⟨m', f', out ++ [m], rfl, hm2, by omega, by omega, Hcl.out, by rw [List.length_append]; simp; omega, ⟨z6, rfl⟩, O6.out⟩
      case measure => simp [RowKit.intOf]; omega
set_option maxRecDepth 100000 in
theorem iPathTo_any (t : Tree) (v0 v1 v2 : Value) (n : Int) (w : World) (h : ST w v0 v1 v2 t) :
    Calls Try.prog 54 #[.agg #[v0, v1, v2], .int .i64 n] w fun e w' => ∃ v', e = .returned v' ∧ Up w w' ∧ Own encI 3 1 w.heap.size w' v' (pathR t n) := by
  have H := Lib.hid h
  obtain ⟨p0, c0, rfl, _, _⟩ := h.base.openc
  obtain ⟨p1, c1, rfl, hl1, _⟩ := h.bs.openc
  obtain ⟨p2, c2, rfl, hlp, _⟩ := h.pr.openc
  clear h
  have kv := fun w h => iTreeValid_any t (.slice p0 t.base.length c0) (.slice p1 t.bs.length c1) (.slice p2 t.pr.length c2) w h
  have kh := fun w h => has_any t (.slice p0 t.base.length c0) (.slice p1 t.bs.length c1) (.slice p2 t.pr.length c2) n w h
  rcases ho : t.ok with _ | _
  · rw [ho] at kv
    rw [pathR_no1 ho]
    go_enter Try.func54, Try.ntmps54
    go_wp2_with (go_at_call 30; refine (kv _ (H.out.up (by repeat (first | (with_reducible exact Ext.refl _) | (with_reducible refine Ext.up ?_ _) | (with_reducible refine Ext.alloc ?_ _) | (with_reducible refine Ext.drew ?_) | (with_reducible refine Ext.setRow ?_ (by first | exact LeS.le | exact LeS.add _ | (simp; done) | (simp; omega)) _) | (with_reducible refine Ext.setCell ?_ (by first | exact LeS.le | exact LeS.add _ | (simp; done) | (simp; omega)) _))))).mono ?_; rintro e w' ⟨rfl, z, rfl⟩)
    go_ret
    exact ⟨_, rfl, (.of (by repeat (first | (with_reducible exact Ext.refl _) | (with_reducible refine Ext.up ?_ _) | (with_reducible refine Ext.alloc ?_ _) | (with_reducible refine Ext.drew ?_) | (with_reducible refine Ext.setRow ?_ (by first | exact LeS.le | exact LeS.add _ | (simp; done) | (simp; omega)) _) | (with_reducible refine Ext.setCell ?_ (by first | exact LeS.le | exact LeS.add _ | (simp; done) | (simp; omega)) _)))), Own.nil _ _ _ _ _⟩
  rw [ho] at kv
  rcases hn : hasN t n with _ | _
  · rw [hn] at kh
    rw [pathR_no2 hn]
    go_enter Try.func54, Try.ntmps54
    go_wp2_with (first | (go_at_call 30; refine (kv _ (H.out.up (by repeat (first | (with_reducible exact Ext.refl _) | (with_reducible refine Ext.up ?_ _) | (with_reducible refine Ext.alloc ?_ _) | (with_reducible refine Ext.drew ?_) | (with_reducible refine Ext.setRow ?_ (by first | exact LeS.le | exact LeS.add _ | (simp; done) | (simp; omega)) _) | (with_reducible refine Ext.setCell ?_ (by first | exact LeS.le | exact LeS.add _ | (simp; done) | (simp; omega)) _))))).mono ?_; rintro e w' ⟨rfl, z, rfl⟩) | (go_at_call 76; refine (kh _ (H.out.up (by repeat (first | (with_reducible exact Ext.refl _) | (with_reducible refine Ext.up ?_ _) | (with_reducible refine Ext.alloc ?_ _) | (with_reducible refine Ext.drew ?_) | (with_reducible refine Ext.setRow ?_ (by first | exact LeS.le | exact LeS.add _ | (simp; done) | (simp; omega)) _) | (with_reducible refine Ext.setCell ?_ (by first | exact LeS.le | exact LeS.add _ | (simp; done) | (simp; omega)) _))))).mono ?_; rintro e w' ⟨rfl, z2, rfl⟩))
    go_ret
    exact ⟨_, rfl, (.of (by repeat (first | (with_reducible exact Ext.refl _) | (with_reducible refine Ext.up ?_ _) | (with_reducible refine Ext.alloc ?_ _) | (with_reducible refine Ext.drew ?_) | (with_reducible refine Ext.setRow ?_ (by first | exact LeS.le | exact LeS.add _ | (simp; done) | (simp; omega)) _) | (with_reducible refine Ext.setCell ?_ (by first | exact LeS.le | exact LeS.add _ | (simp; done) | (simp; omega)) _)))), Own.nil _ _ _ _ _⟩
  rw [hn] at kh
  rw [pathR_yes ho hn]
  go_enter Try.func54, Try.ntmps54
  go_wp2_with (first | (go_at_call 30; refine (kv _ (H.out.up (by repeat (first | (with_reducible exact Ext.refl _) | (with_reducible refine Ext.up ?_ _) | (with_reducible refine Ext.alloc ?_ _) | (with_reducible refine Ext.drew ?_) | (with_reducible refine Ext.setRow ?_ (by first | exact LeS.le | exact LeS.add _ | (simp; done) | (simp; omega)) _) | (with_reducible refine Ext.setCell ?_ (by first | exact LeS.le | exact LeS.add _ | (simp; done) | (simp; omega)) _))))).mono ?_; rintro e w' ⟨rfl, z, rfl⟩) | (go_at_call 76; refine (kh _ (H.out.up (by repeat (first | (with_reducible exact Ext.refl _) | (with_reducible refine Ext.up ?_ _) | (with_reducible refine Ext.alloc ?_ _) | (with_reducible refine Ext.drew ?_) | (with_reducible refine Ext.setRow ?_ (by first | exact LeS.le | exact LeS.add _ | (simp; done) | (simp; omega)) _) | (with_reducible refine Ext.setCell ?_ (by first | exact LeS.le | exact LeS.add _ | (simp; done) | (simp; omega)) _))))).mono ?_; rintro e w' ⟨rfl, z2, rfl⟩) | (go_at_call 92; refine (path_any t _ _ _ n _ (H.out.up (by repeat (first | (with_reducible exact Ext.refl _) | (with_reducible refine Ext.up ?_ _) | (with_reducible refine Ext.alloc ?_ _) | (with_reducible refine Ext.drew ?_) | (with_reducible refine Ext.setRow ?_ (by first | exact LeS.le | exact LeS.add _ | (simp; done) | (simp; omega)) _) | (with_reducible refine Ext.setCell ?_ (by first | exact LeS.le | exact LeS.add _ | (simp; done) | (simp; omega)) _)))) ho hn).mono ?_; rintro e w' ⟨v', rfl, ⟨z3, rfl⟩, hown⟩))
  go_ret
  exact ⟨_, rfl, (.of (by repeat (first | (with_reducible exact Ext.refl _) | (with_reducible refine Ext.up ?_ _) | (with_reducible refine Ext.alloc ?_ _) | (with_reducible refine Ext.drew ?_) | (with_reducible refine Ext.setRow ?_ (by first | exact LeS.le | exact LeS.add _ | (simp; done) | (simp; omega)) _) | (with_reducible refine Ext.setCell ?_ (by first | exact LeS.le | exact LeS.add _ | (simp; done) | (simp; omega)) _)))), Own.lo hown LeS.le⟩
theorem getD_of' {l : List Int} {k : Nat} {x d : Int} (h : l[k]? = some x) : l.getD k d = x := by simp [List.getD, h]
theorem pathB_mem {t : Tree} (h : t.ok = true) {n : Int} (hn : hasN t n = true) : ∀ a ∈ pathB t n, hasN t a = true := by
  have key : ∀ (f : Nat) (m : Int), m < t.bs.length → ∀ a ∈ climb t.pr f m, 0 ≤ a ∧ a < t.bs.length := by
    intro f
    induction f with
    | zero => intro m _ a ha; simp [climb] at ha
    | succ f ih =>
      intro m hm a ha
      unfold climb at ha
      split at ha
      · simp at ha
      · rename_i hneg
        rcases List.mem_cons.1 ha with rfl | ha
        · omega
        · refine ih _ ?_ a ha
          cases hq : t.pr[m.toNat]? with
          | none => simp [List.getD, hq]; omega
          | some q => have := Tree.pr_lt h hq; rw [getD_of' hq]; omega
  intro a ha
  have := key _ _ (by have := (inR_iff.1 hn).2; omega) a (List.mem_reverse.1 ha)
  exact inR_iff.2 (by omega)
set_option maxRecDepth 100000 in
theorem iIsBefore_any (t : Tree) (v0 v1 v2 : Value) (a n : Int) (w : World) (h : ST w v0 v1 v2 t) :
    Calls Try.prog 51 #[.agg #[v0, v1, v2], .int .i64 a, .int .i64 n] w fun e w' => e = .returned (.bool (hasI (pathR t n) a)) ∧ Up w w' := by
  have H := Lib.hid h
  obtain ⟨p0, c0, rfl, _, _⟩ := h.base.openc
  obtain ⟨p1, c1, rfl, hl1, _⟩ := h.bs.openc
  obtain ⟨p2, c2, rfl, hlp, _⟩ := h.pr.openc
  clear h
  have kv := fun w h => iTreeValid_any t (.slice p0 t.base.length c0) (.slice p1 t.bs.length c1) (.slice p2 t.pr.length c2) w h
  have ka := fun w h => has_any t (.slice p0 t.base.length c0) (.slice p1 t.bs.length c1) (.slice p2 t.pr.length c2) a w h
  have kn := fun w h => has_any t (.slice p0 t.base.length c0) (.slice p1 t.bs.length c1) (.slice p2 t.pr.length c2) n w h
  rcases ho : t.ok with _ | _
  · rw [ho] at kv
    rw [pathR_no1 ho]
    go_enter Try.func51, Try.ntmps51
    go_wp2_with (go_at_call 30; refine (kv _ (H.out.up (by repeat (first | (with_reducible exact Ext.refl _) | (with_reducible refine Ext.up ?_ _) | (with_reducible refine Ext.alloc ?_ _) | (with_reducible refine Ext.drew ?_) | (with_reducible refine Ext.setRow ?_ (by first | exact LeS.le | exact LeS.add _ | (simp; done) | (simp; omega)) _) | (with_reducible refine Ext.setCell ?_ (by first | exact LeS.le | exact LeS.add _ | (simp; done) | (simp; omega)) _))))).mono ?_; rintro e w' ⟨rfl, z, rfl⟩)
    go_ret
    exact ⟨rfl, (.of (by repeat (first | (with_reducible exact Ext.refl _) | (with_reducible refine Ext.up ?_ _) | (with_reducible refine Ext.alloc ?_ _) | (with_reducible refine Ext.drew ?_) | (with_reducible refine Ext.setRow ?_ (by first | exact LeS.le | exact LeS.add _ | (simp; done) | (simp; omega)) _) | (with_reducible refine Ext.setCell ?_ (by first | exact LeS.le | exact LeS.add _ | (simp; done) | (simp; omega)) _))))⟩
  rw [ho] at kv
  rcases hq : hasN t a with _ | _
  · have hz : hasI (pathR t n) a = false := by
      rw [hasI_not]
      intro hm
      rcases hn : hasN t n with _ | _
      · rw [pathR_no2 hn] at hm; simp at hm
      · rw [pathR_yes ho hn] at hm
        have := pathB_mem ho hn a hm
        rw [hq] at this; cases this
    rw [hz]
    rw [hq] at ka
    go_enter Try.func51, Try.ntmps51
    go_wp2_with (go_at_call 30; refine (kv _ (H.out.up (by repeat (first | (with_reducible exact Ext.refl _) | (with_reducible refine Ext.up ?_ _) | (with_reducible refine Ext.alloc ?_ _) | (with_reducible refine Ext.drew ?_) | (with_reducible refine Ext.setRow ?_ (by first | exact LeS.le | exact LeS.add _ | (simp; done) | (simp; omega)) _) | (with_reducible refine Ext.setCell ?_ (by first | exact LeS.le | exact LeS.add _ | (simp; done) | (simp; omega)) _))))).mono ?_; rintro e w' ⟨rfl, z, rfl⟩)
    refine (ka _ (H.out.up (by repeat (first | (with_reducible exact Ext.refl _) | (with_reducible refine Ext.up ?_ _) | (with_reducible refine Ext.alloc ?_ _) | (with_reducible refine Ext.drew ?_) | (with_reducible refine Ext.setRow ?_ (by first | exact LeS.le | exact LeS.add _ | (simp; done) | (simp; omega)) _) | (with_reducible refine Ext.setCell ?_ (by first | exact LeS.le | exact LeS.add _ | (simp; done) | (simp; omega)) _))))).mono ?_; rintro e w' ⟨rfl, z2, rfl⟩
    go_wp2_with fail
    go_ret
    exact ⟨rfl, (.of (by repeat (first | (with_reducible exact Ext.refl _) | (with_reducible refine Ext.up ?_ _) | (with_reducible refine Ext.alloc ?_ _) | (with_reducible refine Ext.drew ?_) | (with_reducible refine Ext.setRow ?_ (by first | exact LeS.le | exact LeS.add _ | (simp; done) | (simp; omega)) _) | (with_reducible refine Ext.setCell ?_ (by first | exact LeS.le | exact LeS.add _ | (simp; done) | (simp; omega)) _))))⟩
  rw [hq] at ka
  rcases hn : hasN t n with _ | _
  · rw [hn] at kn
    rw [pathR_no2 hn]
    go_enter Try.func51, Try.ntmps51
    go_wp2_with (go_at_call 30; refine (kv _ (H.out.up (by repeat (first | (with_reducible exact Ext.refl _) | (with_reducible refine Ext.up ?_ _) | (with_reducible refine Ext.alloc ?_ _) | (with_reducible refine Ext.drew ?_) | (with_reducible refine Ext.setRow ?_ (by first | exact LeS.le | exact LeS.add _ | (simp; done) | (simp; omega)) _) | (with_reducible refine Ext.setCell ?_ (by first | exact LeS.le | exact LeS.add _ | (simp; done) | (simp; omega)) _))))).mono ?_; rintro e w' ⟨rfl, z, rfl⟩)
    refine (ka _ (H.out.up (by repeat (first | (with_reducible exact Ext.refl _) | (with_reducible refine Ext.up ?_ _) | (with_reducible refine Ext.alloc ?_ _) | (with_reducible refine Ext.drew ?_) | (with_reducible refine Ext.setRow ?_ (by first | exact LeS.le | exact LeS.add _ | (simp; done) | (simp; omega)) _) | (with_reducible refine Ext.setCell ?_ (by first | exact LeS.le | exact LeS.add _ | (simp; done) | (simp; omega)) _))))).mono ?_; rintro e w' ⟨rfl, z2, rfl⟩
    go_wp2_with fail
    refine (kn _ (H.out.up (by repeat (first | (with_reducible exact Ext.refl _) | (with_reducible refine Ext.up ?_ _) | (with_reducible refine Ext.alloc ?_ _) | (with_reducible refine Ext.drew ?_) | (with_reducible refine Ext.setRow ?_ (by first | exact LeS.le | exact LeS.add _ | (simp; done) | (simp; omega)) _) | (with_reducible refine Ext.setCell ?_ (by first | exact LeS.le | exact LeS.add _ | (simp; done) | (simp; omega)) _))))).mono ?_; rintro e w' ⟨rfl, z4, rfl⟩
    go_wp2_with fail
    go_ret
    exact ⟨rfl, (.of (by repeat (first | (with_reducible exact Ext.refl _) | (with_reducible refine Ext.up ?_ _) | (with_reducible refine Ext.alloc ?_ _) | (with_reducible refine Ext.drew ?_) | (with_reducible refine Ext.setRow ?_ (by first | exact LeS.le | exact LeS.add _ | (simp; done) | (simp; omega)) _) | (with_reducible refine Ext.setCell ?_ (by first | exact LeS.le | exact LeS.add _ | (simp; done) | (simp; omega)) _))))⟩
  rw [hn] at kn
  rw [pathR_yes ho hn]
  go_enter Try.func51, Try.ntmps51
  go_wp2_with (go_at_call 30; refine (kv _ (H.out.up (by repeat (first | (with_reducible exact Ext.refl _) | (with_reducible refine Ext.up ?_ _) | (with_reducible refine Ext.alloc ?_ _) | (with_reducible refine Ext.drew ?_) | (with_reducible refine Ext.setRow ?_ (by first | exact LeS.le | exact LeS.add _ | (simp; done) | (simp; omega)) _) | (with_reducible refine Ext.setCell ?_ (by first | exact LeS.le | exact LeS.add _ | (simp; done) | (simp; omega)) _))))).mono ?_; rintro e w' ⟨rfl, z, rfl⟩)
  refine (ka _ (H.out.up (by repeat (first | (with_reducible exact Ext.refl _) | (with_reducible refine Ext.up ?_ _) | (with_reducible refine Ext.alloc ?_ _) | (with_reducible refine Ext.drew ?_) | (with_reducible refine Ext.setRow ?_ (by first | exact LeS.le | exact LeS.add _ | (simp; done) | (simp; omega)) _) | (with_reducible refine Ext.setCell ?_ (by first | exact LeS.le | exact LeS.add _ | (simp; done) | (simp; omega)) _))))).mono ?_; rintro e w' ⟨rfl, z2, rfl⟩
  go_wp2_with fail
  refine (kn _ (H.out.up (by repeat (first | (with_reducible exact Ext.refl _) | (with_reducible refine Ext.up ?_ _) | (with_reducible refine Ext.alloc ?_ _) | (with_reducible refine Ext.drew ?_) | (with_reducible refine Ext.setRow ?_ (by first | exact LeS.le | exact LeS.add _ | (simp; done) | (simp; omega)) _) | (with_reducible refine Ext.setCell ?_ (by first | exact LeS.le | exact LeS.add _ | (simp; done) | (simp; omega)) _))))).mono ?_; rintro e w' ⟨rfl, z4, rfl⟩
  go_wp2_with (first | ((go_at_call 92; refine (path_any t _ _ _ n _ (H.out.up (by repeat (first | (with_reducible exact Ext.refl _) | (with_reducible refine Ext.up ?_ _) | (with_reducible refine Ext.alloc ?_ _) | (with_reducible refine Ext.drew ?_) | (with_reducible refine Ext.setRow ?_ (by first | exact LeS.le | exact LeS.add _ | (simp; done) | (simp; omega)) _) | (with_reducible refine Ext.setCell ?_ (by first | exact LeS.le | exact LeS.add _ | (simp; done) | (simp; omega)) _)))) ho hn).mono ?_; rintro e w' ⟨v', rfl, ⟨z3, rfl⟩, hown⟩); obtain ⟨p5, c5, rfl, _, _⟩ := (hown.sl encI_length).openc) | (go_at_call 75; refine (containsI_any (pathB t n) _ a _ (hown.sl encI_length)).mono ?_; rintro e w' ⟨rfl, rfl⟩))
  go_ret
  exact ⟨rfl, (.of (by repeat (first | (with_reducible exact Ext.refl _) | (with_reducible refine Ext.up ?_ _) | (with_reducible refine Ext.alloc ?_ _) | (with_reducible refine Ext.drew ?_) | (with_reducible refine Ext.setRow ?_ (by first | exact LeS.le | exact LeS.add _ | (simp; done) | (simp; omega)) _) | (with_reducible refine Ext.setCell ?_ (by first | exact LeS.le | exact LeS.add _ | (simp; done) | (simp; omega)) _))))⟩
end Go.Proofs.Ytphkimbhjfjjkaa
namespace Go.Proofs.Ytphkimbhjfjjkaa
open Go Go.RowKit Go.Proofs

end Go.Proofs.Ytphkimbhjfjjkaa
namespace Go.Proofs.Ytphkimbhjfjjkaa
open Go Go.RowKit Go.Proofs

theorem pathR_le (t : Tree) (n : Int) : (pathR t n).length ≤ t.bs.length := by
  unfold pathR
  split
  · rw [pathB, List.length_reverse]; exact climb_le _ _ _
  · simp
end Go.Proofs.Ytphkimbhjfjjkaa
namespace Go.Proofs.Ytphkimbhjfjjkaa
open Go Go.RowKit

theorem Tree.lens {t : Tree} (h : t.ok = true) : t.pr.length = t.bs.length ∧ 1 ≤ t.bs.length ∧ t.bs.length ≤ 14 := by
  obtain ⟨_, a2, a3, _⟩ := Tree.head_parts (Tree.ok_parts h).1
  exact ⟨a3, a2.1, a2.2⟩
theorem Tree.ht_zero {t : Tree} (h : t.ok = true) {x : BL} (hx : t.bs[0]? = some x) : x.1.ht = 0 := by
  have := (Tree.ok_parts h).2.1
  simp only [Tree.first, hx, sameF, Bool.and_eq_true, beq_iff_eq] at this
  rw [this.2.1]
  unfold firstB; split <;> rfl
theorem Tree.pr_zero {t : Tree} (h : t.ok = true) : t.pr[0]? = some (-1) := by
  obtain ⟨_, a2, a3, a4⟩ := Tree.head_parts (Tree.ok_parts h).1
  obtain ⟨m, hm⟩ := getElem?_some_of_lt (l := t.pr) (k := 0) (by omega)
  rw [getD_of hm] at a4; rw [hm, a4]
/-- Behind another: the one before has a lesser number, a height less by 1. -/
theorem Tree.link {t : Tree} (h : t.ok = true) {i : Nat} {x : BL} (hx : t.bs[i]? = some x) (h0 : 0 < i) : ∃ (m : Nat) (y : BL), t.pr[i]? = some (m : Int) ∧ m < i ∧ t.bs[m]? = some y ∧ y.1.ht + 1 = x.1.ht := by
  have hi := (List.getElem?_eq_some_iff.1 hx).1
  have hl := Tree.lens h
  obtain ⟨n, hn⟩ := getElem?_some_of_lt (l := t.pr) (k := i) (by omega)
  have hlk := upTo_iff.1 (Tree.ok_parts h).2.2.2 i hi
  have hb : inR n 0 ((i : Int) - 1) = true := by
    unfold linkAt at hlk
    have : i ≠ 0 := by omega
    simp only [hx, hn, this, decide_false, Bool.false_or, Bool.and_eq_true] at hlk
    exact hlk.1
  rw [inR_iff] at hb
  obtain ⟨y, hy⟩ := getElem?_some_of_lt (l := t.bs) (k := n.toNat) (by omega)
  rw [linkAt_eq hx hn hy h0] at hlk
  simp only [Bool.and_eq_true, decide_eq_true_eq] at hlk
  exact ⟨n.toNat, y, by rw [hn]; congr 1; omega, by omega, hy, hlk.2.2.1⟩
theorem climb_all {t : Tree} (h : t.ok = true) : ∀ (f n : Nat) (x : BL), n < f → t.bs[n]? = some x →
    (((climb t.pr f n).length : Int) = x.1.ht + 1) ∧ (climb t.pr f n)[0]? = some (n : Int) ∧ (climb t.pr f n).getLast? = some 0 ∧
    (∀ (k : Nat) a b, (climb t.pr f n)[k]? = some a → (climb t.pr f n)[k + 1]? = some b → t.pr[a.toNat]? = some b) ∧
    (∀ a ∈ climb t.pr f n, ∃ (m : Nat) (y : BL), a = (m : Int) ∧ t.bs[m]? = some y ∧ (a = (n : Int) ∨ y.1.ht < x.1.ht))
  | 0, n, x, hf, _ => by omega
  | f + 1, n, x, hf, hx => by
    by_cases h0 : 0 < n
    · obtain ⟨m, y, hm, hlt, hy, hh⟩ := Tree.link h hx h0
      obtain ⟨c1, c2, c3, c4, c5⟩ := climb_all h f m y (by omega) hy
      rw [climb_step (by omega) (show t.pr[(n : Int).toNat]? = some (m : Int) from hm)]
      refine ⟨by rw [List.length_cons]; omega, rfl, ?_, ?_, ?_⟩
      · rw [List.getLast?_cons, c3]; rfl
      · intro k a b ha hb
        rcases k with _ | k
        · simp only [List.getElem?_cons_zero, Option.some.injEq, Nat.zero_add, List.getElem?_cons_succ] at ha hb
          subst ha
          rw [c2, Option.some.injEq] at hb
          subst hb
          exact hm
        · simp only [List.getElem?_cons_succ] at ha hb
          exact c4 k a b ha hb
      · intro a ha
        rcases List.mem_cons.1 ha with rfl | ha
        · exact ⟨n, x, rfl, hx, .inl rfl⟩
        · obtain ⟨q, z, rfl, hz, hz2⟩ := c5 a ha
          refine ⟨q, z, rfl, hz, .inr ?_⟩
          rcases hz2 with e | e
          · have : q = m := by omega
            subst this
            rw [hy, Option.some.injEq] at hz; subst hz; omega
          · omega
    · obtain rfl : n = 0 := by omega
      rw [climb_step (by omega) (show t.pr[((0 : Nat) : Int).toNat]? = some (-1) from Tree.pr_zero h), climb_neg _ _ (by omega)]
      have := Tree.ht_zero h hx
      refine ⟨by rw [this]; rfl, rfl, rfl, fun k a b _ hb => by simp at hb, fun a ha => ?_⟩
      simp at ha; subst ha
      exact ⟨0, x, rfl, hx, .inl rfl⟩
theorem hasN_iff {t : Tree} {n : Int} : hasN t n = true ↔ 0 ≤ n ∧ n < t.bs.length := by unfold hasN; rw [inR_iff]; omega
theorem pathR_some {t : Tree} {n : Int} (h : pathR t n ≠ []) : t.ok = true ∧ hasN t n = true := by
  unfold pathR at h
  split at h
  · rename_i hc; simpa using hc
  · exact absurd rfl h
/-- The way to a block: from the first one, one behind the other; as many as its height and one. -/
theorem path_all {t : Tree} {n : Int} (h : t.ok = true) (hn : hasN t n = true) : ∃ x, t.bs[n.toNat]? = some x ∧ ((pathR t n).length : Int) = x.1.ht + 1 ∧ (pathR t n)[0]? = some 0 ∧ (pathR t n)[(pathR t n).length - 1]? = some n ∧
    (∀ (k : Nat) a b, (pathR t n)[k]? = some a → (pathR t n)[k + 1]? = some b → t.pr[b.toNat]? = some a) ∧ (∀ a ∈ pathR t n, ∃ (m : Nat) (y : BL), a = (m : Int) ∧ t.bs[m]? = some y ∧ (a = n ∨ y.1.ht < x.1.ht)) := by
  have hb := hasN_iff.1 hn
  obtain ⟨x, hx⟩ := getElem?_some_of_lt (l := t.bs) (k := n.toNat) (by omega)
  obtain ⟨c1, c2, c3, c4, c5⟩ := climb_all h t.bs.length n.toNat x (by omega) hx
  rw [show ((n.toNat : Nat) : Int) = n from by omega] at c1 c2 c3 c4 c5
  rw [pathR_yes h hn]
  unfold pathB
  have hpos : 0 < (climb t.pr t.bs.length n).length := (List.getElem?_eq_some_iff.1 c2).1
  refine ⟨x, hx, by rw [List.length_reverse]; exact c1, ?_, ?_, ?_, fun a ha => c5 a (List.mem_reverse.1 ha)⟩
  · rw [List.getElem?_reverse hpos, Nat.sub_zero, ← List.getLast?_eq_getElem?]
    exact c3
  · rw [List.length_reverse, List.getElem?_reverse (by omega)]
    rw [show (climb t.pr t.bs.length n).length - 1 - ((climb t.pr t.bs.length n).length - 1) = 0 from by omega]
    exact c2
  · intro k a b ha hb
    have hk : k + 1 < (climb t.pr t.bs.length n).length := by have := (List.getElem?_eq_some_iff.1 hb).1; rw [List.length_reverse] at this; exact this
    rw [List.getElem?_reverse (by omega)] at ha hb
    refine c4 ((climb t.pr t.bs.length n).length - 1 - (k + 1)) b a hb ?_
    rw [show (climb t.pr t.bs.length n).length - 1 - (k + 1) + 1 = (climb t.pr t.bs.length n).length - 1 - k from by omega]
    exact ha
theorem mem_path_self {t : Tree} {n : Int} (h : t.ok = true) (hn : hasN t n = true) : n ∈ pathR t n := by
  obtain ⟨x, _, _, _, h4, _⟩ := path_all h hn
  exact List.mem_of_getElem? h4
theorem mem_path_zero {t : Tree} {n : Int} (h : t.ok = true) (hn : hasN t n = true) : (0 : Int) ∈ pathR t n := by
  obtain ⟨x, _, _, h3, _⟩ := path_all h hn
  exact List.mem_of_getElem? h3
/-- Found blocks. -/
theorem findB_some {cs : List BL} {sum : Int} (h : 0 ≤ findB cs sum) : ∃ x, cs[(findB cs sum).toNat]? = some x ∧ bsumOf x = sum := by
  rcases hf : cs.findIdx? (fun x => bsumOf x == sum) with _ | i
  · exfalso; unfold findB at h; rw [hf] at h; simp at h
  · have e : findB cs sum = i := by unfold findB; rw [hf]
    rw [List.findIdx?_eq_some_iff_getElem] at hf
    obtain ⟨h1, h2, _⟩ := hf
    exact ⟨cs[i], by rw [e]; simp [h1], by simpa using h2⟩
theorem findB_self {t : Tree} (h : t.ok = true) {k : Nat} {x : BL} (hx : t.bs[k]? = some x) : findB t.bs (bsumOf x) = k := by
  have hi := (List.getElem?_eq_some_iff.1 hx).1
  have := upTo_iff.1 (Tree.ok_parts h).2.2.1 k hi
  rw [newAt_find hx, Bool.and_eq_true, decide_eq_true_eq] at this
  exact this.2
end Go.Proofs.Ytphkimbhjfjjkaa
namespace Go.Proofs.Ytphkimbhjfjjkaa
open Go Go.RowKit Go.Proofs

theorem opAt {l : List Oper} {i : Nat} {o : Oper} (h : l[i]? = some o) : l.toArray[i]? = some o := by
  rw [List.getElem?_toArray]
  exact h
end Go.Proofs.Ytphkimbhjfjjkaa
