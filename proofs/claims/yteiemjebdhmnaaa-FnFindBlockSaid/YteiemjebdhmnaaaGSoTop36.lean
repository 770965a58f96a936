/- Walks: DrawFindBlock (printed by wip/mkfnd.py). -/
import Derived.Test.YteiemjebdhmnaaaGSoTop30
import Derived.Test.YteiemjebdhmnaaaGSoTop34
import Derived.Test.YteiemjebdhmnaaaGSoTop19
import Derived.Test.YteiemjebdhmnaaaGSoTop35
set_option linter.unusedSimpArgs false
set_option linter.unusedVariables false
namespace Go.Proofs.Yteiemjebdhmnaaa
open Go Go.RowKit Go.Proofs

/-- Blocks but two stay; the second, once it holds what it is to hold, keeps it. -/
def ChgF (rb R : Nat) (fin : Obj) (w w' : World) : Prop := Chg w w' (fun b => b = rb ∨ b = R) ∧ (R < w.heap.size → w'.heap[R]? = w.heap[R]? ∨ w'.heap[R]? = some fin)
theorem Chg.trans {a b c : World} {B : Nat → Prop} (h : Chg a b B) (h' : Chg b c B) : Chg a c B :=
  ⟨h'.os.trans h.os, h'.tape.trans h.tape, h'.output.trans h.output, Nat.le_trans h.size h'.size, fun n hn hB => (h'.block n (Nat.lt_of_lt_of_le hn h.size) hB).trans (h.block n hn hB)⟩
theorem ChgF.refl (rb R : Nat) (fin : Obj) (w : World) : ChgF rb R fin w w := ⟨Chg.refl _ _, fun _ => .inl rfl⟩
theorem ChgF.trans {rb R : Nat} {fin : Obj} {a b c : World} (h : ChgF rb R fin a b) (h' : ChgF rb R fin b c) : ChgF rb R fin a c := ⟨h.1.trans h'.1, fun x => by
  rcases h'.2 (Nat.lt_of_lt_of_le x h.1.size) with e | e
  · rw [e]; exact h.2 x
  · exact .inr e⟩
theorem ChgF.ext {rb R : Nat} {fin : Obj} {w w' : World} (hE : Ext w w') : ChgF rb R fin w w' := ⟨⟨hE.1, hE.2, hE.3, hE.size, fun b hb _ => hE.block hb⟩, fun h => .inl (hE.block h)⟩
theorem ChgF.rd {rb R : Nat} {fin : Obj} {w : World} (z : ExtR rb w) (hne : R ≠ rb) : ChgF rb R fin w z.val := ⟨(Chg.refl _ _).grown z.grown (fun k hk => by cases hk; exact .inl rfl), fun h => .inl (z.block h hne)⟩
theorem ChgF.put {w : World} (rb : Nat) {R : Nat} (y0 y1 y2 : Value) {a0 a1 a2 : Value} {ty : TypeId} (h : w.heap[R]? = some (.cells #[a0, a1, a2] ty (0, 0))) : ChgF rb R (.cells #[y0, y1, y2] ty (0, 0)) w (((w.setCell ⟨R, 0, none⟩ y0).setCell ⟨R, 1, none⟩ y1).setCell ⟨R, 2, none⟩ y2) :=
  ⟨(((Chg.refl w (fun b => b = rb ∨ b = R)).grown (grownBy_set _ ⟨R, 0, none⟩ y0) (fun k hk => by cases hk; exact .inr rfl)).grown (grownBy_set _ ⟨R, 1, none⟩ y1) (fun k hk => by cases hk; exact .inr rfl)).grown (grownBy_set _ ⟨R, 2, none⟩ y2) (fun k hk => by cases hk; exact .inr rfl),
   fun _ => .inr ((heap_setCell_same _ _ 2 _ _ y2 ((heap_setCell_same _ _ 1 _ _ y1 ((heap_setCell_same _ _ 0 _ _ y0 h).trans rfl)).trans rfl)).trans rfl)⟩
theorem ChgF.row {rb R : Nat} {fin : Obj} {w w' : World} (h : ChgF rb R fin w w') {g : Nat} {o : Obj} (hg : w.heap[g]? = some o) (h1 : g ≠ rb) (h2 : g ≠ R) : w'.heap[g]? = some o := (h.1.block g (Array.getElem?_eq_some_iff.1 hg).1 (by rintro (e | e); exact h1 e; exact h2 e)).trans hg
theorem ChgF.cell {rb R : Nat} {fin : Obj} {w w' : World} (h : ChgF rb R fin w w') {g i : Nat} {v : Value} (hg : w.cell? ⟨g, i, none⟩ = some v) (h1 : g ≠ rb) (h2 : g ≠ R) : w'.cell? ⟨g, i, none⟩ = some v := by
  have hl := (LtS.of_some hg).lt
  have hb := h.1.block g hl (by rintro (e | e); exact h1 e; exact h2 e)
  rw [← hg]
  simp only [World.cell?, hb]
theorem ChgF.own {α : Type} {enc : α → List Value} {e sz lo rb R : Nat} {fin : Obj} {w w' : World} {v : Value} {l : List α} (h : ChgF rb R fin w w') (ho : Own enc e sz lo w v l) (h1 : rb < lo) (h2 : R < lo) : Own enc e sz lo w' v l :=
  Chg.own ho h.1 (fun k hk hB => by have := (World.ownsRow.lt ho k hk).1; rcases hB with e | e <;> omega)
theorem ChgF.ota {eE eB eA eI lo rb R : Nat} {fin : Obj} {w w' : World} {v0 v1 v2 : Value} {base : List Ent} {bs : List TB} {pr : List Int} (h : ChgF rb R fin w w') (ho : OTA eE eB eA eI lo w v0 v1 v2 base bs pr) (h1 : rb < lo) (h2 : R < lo) : OTA eE eB eA eI lo w' v0 v1 v2 base bs pr :=
  ⟨h.own ho.obase h1 h2, ⟨h.own ho.obs.1 h1 h2, fun x hx => ⟨h.own (ho.obs.2.1 x hx).1 h1 h2, (ho.obs.2.1 x hx).2⟩, ho.obs.2.2⟩, h.own ho.opr h1 h2, ho.a01, ho.a21, ho.a02, ho.in0, ho.in2⟩
def fndG (V Vb : Value) (nb S5 b off rb R lo : Nat) (fin : Obj) (j : Nat) (v : Value) (W : World) : Prop := match j with
  | 0 => v = V
  | 1 => v = .pointer (some ⟨S5, 1, none⟩)
  | 2 => v = Vb
  | 3 => v = .pointer (some ⟨rb, 0, none⟩)
  | 4 => v = .pointer (some ⟨S5, 1, none⟩)
  | 5 => v = Vb
  | 6 => v = .int .i64 (nb : Int)
  | 7 => ∃ m : Nat, m < nb ∧ v = .int .i64 (m : Int)
  | 8 => ∃ m : Nat, m < nb ∧ v = .pointer (some ⟨b, off + m * 6, none⟩)
  | 9 => ∃ (xb : Blk) (xl : List Actn) (pv : Option Addr) (cv : Nat), v = .agg #[.int .i64 xb.bf, .int .i64 xb.ht, .int .i64 xb.vw, .slice pv xl.length cv, .int .i64 xb.rt, .int .i64 xb.ef] ∧ Own Actn.enc 85 4 lo W (.slice pv xl.length cv) xl
  | 10 => ∃ n : Int, v = .int .i64 n
  | 11 => v = .pointer (some ⟨rb, 0, none⟩)
  | 12 => ∃ n : Int, v = .int .i64 n
  | 13 => ∃ (g : Nat) (n1 n2 : Int), v = .slice (some ⟨g, 0, none⟩) 3 3 ∧ lo ≤ g ∧ W.heap[g]? = some (.cells #[.int .i64 n1, .int .i64 n2, .int .i64 (-1)] 3 (0, 0))
  | 14 => ∃ g : Nat, v = .slice (some ⟨g, 0, none⟩) 5 5 ∧ lo ≤ g ∧ W.heap[g]? = some (.cells #[.int .i64 0, .int .i64 0, .int .i64 0, .int .i64 1, .int .i64 2] 3 (0, 0))
  | 15 => v = .pointer (some ⟨rb, 0, none⟩)
  | 16 => ∃ q : Nat, q < 5 ∧ v = .int .i64 (q : Int)
  | 17 => ∃ g q : Nat, q < 5 ∧ v = .pointer (some ⟨g, q, none⟩) ∧ lo ≤ g ∧ W.heap[g]? = some (.cells #[.int .i64 0, .int .i64 0, .int .i64 0, .int .i64 1, .int .i64 2] 3 (0, 0))
  | 18 => ∃ q : Nat, q < 3 ∧ v = .int .i64 (q : Int)
  | 19 => ∃ (g q : Nat) (n1 n2 : Int), q < 3 ∧ v = .pointer (some ⟨g, q, none⟩) ∧ lo ≤ g ∧ W.heap[g]? = some (.cells #[.int .i64 n1, .int .i64 n2, .int .i64 (-1)] 3 (0, 0))
  | 20 => ∃ n : Int, v = .int .i64 n
  | 21 => W.heap[R]? = some fin
  | _ => True
theorem fndG_up (V Vb : Value) (nb S5 b off rb R lo : Nat) (fin : Obj) (h1 : rb < lo) (h2 : R < lo) : ∀ (j : Nat) (v : Value) (w w' : World), ChgF rb R fin w w' → fndG V Vb nb S5 b off rb R lo fin j v w → fndG V Vb nb S5 b off rb R lo fin j v w' := by
  intro j v w w' hE h
  unfold fndG at h ⊢
  split at h
  case h_10 => obtain ⟨xb, xl, pv, cv, e, o⟩ := h; exact ⟨xb, xl, pv, cv, e, hE.own o h1 h2⟩
  case h_14 => obtain ⟨g, n1, n2, e, hl, hr⟩ := h; exact ⟨g, n1, n2, e, hl, hE.row hr (by omega) (by omega)⟩
  case h_15 => obtain ⟨g, e, hl, hr⟩ := h; exact ⟨g, e, hl, hE.row hr (by omega) (by omega)⟩
  case h_18 => obtain ⟨g, q, hq, e, hl, hr⟩ := h; exact ⟨g, q, hq, e, hl, hE.row hr (by omega) (by omega)⟩
  case h_20 => obtain ⟨g, q, n1, n2, hq, e, hl, hr⟩ := h; exact ⟨g, q, n1, n2, hq, e, hl, hE.row hr (by omega) (by omega)⟩
  case h_22 => rcases hE.2 (Array.getElem?_eq_some_iff.1 h).1 with e | e; exact e.trans h; exact e
  all_goals exact h
theorem SL.unalloc {w : World} {v : Value} {l : List Int} {ty : TypeId} (h : SL (RF encU) 1 (w.alloc (.cells #[.slice none 0 0, .slice none 0 0, .slice none 0 0] ty)) v l) : SL (RF encU) 1 w v l := by
  obtain ⟨a, cap, hv, hl, hc⟩ := h
  refine ⟨a, cap, hv, hl, fun hne => ?_⟩
  obtain ⟨b, off, ha, hb, hx⟩ := hc hne
  have hb1 := hb.lt
  simp at hb1
  rcases Nat.lt_or_ge b w.heap.size with hlt | hge
  · haveI : LtS b w := ⟨hlt⟩
    refine ⟨b, off, ha, ⟨hlt⟩, fun i x hi => ?_⟩
    obtain ⟨cs, h1, h2, h3⟩ := hx i x hi
    exact ⟨cs, h1, fun j u hu => by rw [← LtS.cell_alloc (.cells #[.slice none 0 0, .slice none 0 0, .slice none 0 0] ty)]; exact h2 j u hu, h3⟩
  · have hbe : b = w.heap.size := by omega
    subst hbe
    exfalso
    obtain ⟨x, hx0⟩ := getElem?_some_of_lt (List.length_pos_iff.2 hne)
    obtain ⟨cs, h1, h2, h3⟩ := hx 0 x hx0
    have h4 := h2 0 (.int .u8 x) (by rw [show cs = encU x from h3]; rfl)
    have hrow := heap_alloc_new w (.cells #[.slice none 0 0, .slice none 0 0, .slice none 0 0] ty)
    rcases Nat.lt_or_ge off 3 with ho | ho
    · have : (w.alloc (.cells #[.slice none 0 0, .slice none 0 0, .slice none 0 0] ty)).cell? ⟨w.heap.size, off + 0 * 1 + 0, none⟩ = some (.slice none 0 0) := by
        rcases (show off = 0 ∨ off = 1 ∨ off = 2 by omega) with rfl | rfl | rfl
        · exact cell_of_row _ _ 0 _ _ _ hrow
        · exact cell_of_row _ _ 1 _ _ _ hrow
        · exact cell_of_row _ _ 2 _ _ _ hrow
      rw [this] at h4; cases h4
    · have : (w.alloc (.cells #[.slice none 0 0, .slice none 0 0, .slice none 0 0] ty)).cell? ⟨w.heap.size, off + 0 * 1 + 0, none⟩ = none := by
        simp only [World.cell?, hrow]
        simp
        exact ho
      rw [this] at h4; cases h4
theorem Rd.unalloc {w W : World} {rb : Nat} {lim : Int} {ty : TypeId} (h : Rd (w.alloc (.cells #[.slice none 0 0, .slice none 0 0, .slice none 0 0] ty)) W rb lim) : Rd w W rb lim := by
  obtain ⟨h1, h2, vb, bs, p, t, hc, hs, hr⟩ := h
  exact ⟨((Ext.refl w).alloc _).trans h1, by simp at h2; omega, vb, bs, p, t, hc, hs.unalloc, hr⟩
theorem cell_of_res (g : Nat) {w w' : World} {o : Obj} (h : w.heap[g]? = some o) (hE : Ext w w') : w'.heap[g]? = some o := (hE.block (Array.getElem?_eq_some_iff.1 h).1).trans h
set_option maxRecDepth 100000 in
set_option maxHeartbeats 8000000 in
theorem drawFindBlock_any (bs : List Int) (v : Value) (w : World) (h : SL (RF encU) 1 w v bs) (hb : ∀ b ∈ bs, 0 ≤ b ∧ b ≤ 255) :
    Calls Try.prog 23 #[v] w fun e w' => ∃ (v0 v1 v2 : Value) (t : Tree) (k : Int), e = .returned (.tuple #[.agg #[v0, v1, v2], .int .i64 k]) ∧ Up w w' ∧ ST w' v0 v1 v2 t := by
  have H := Lib.hid h; clear h
  go_enter Try.func23, Try.ntmps23
  go_wp2_with fail
  refine (open_any bs v _ (H.out.up (by repeat (first | (with_reducible exact Ext.refl _) | (with_reducible refine Ext.up ?_ _) | (with_reducible refine Ext.alloc ?_ _) | (with_reducible refine Ext.drew ?_) | (with_reducible refine Ext.setRow ?_ (by first | exact LeS.le | exact LeS.add _ | (simp; done) | (simp; omega)) _) | (with_reducible refine Ext.setCell ?_ (by first | exact LeS.le | exact LeS.add _ | (simp; done) | (simp; omega)) _)))) hb).mono ?_; rintro e w' ⟨rb, rfl, ⟨z0, rfl⟩, hr⟩
  have H0 := Lib.hid hr
  have Hold := Lib.hid hr.old
  have hold := hr.old
  have hlt0 := hr.lt
  have hz := z0.ext.size
  simp at hz hold
  clear hr
  go_wp2_with fail
  refine (tree_any _ _ rb 0 12 H0.out (by omega) (by omega) (by omega)).mono ?_; rintro e w' ⟨u0, u1, u2, t, bs, rfl, _, ⟨hn1, hn14⟩, hc, ⟨z1, rfl⟩, hr1, ho⟩
  obtain ⟨b, off, c1, rfl, hbL, hbl, hblk⟩ := ho.blks hc hn1
  obtain ⟨p0, c0, rfl, _, _⟩ := (ho.obase.sl Ent.enc_length).openc
  obtain ⟨p2, c2, rfl, _, _⟩ := (ho.opr.sl encI_length).openc
  have HC := Lib.hid hc
  obtain ⟨lim, hlim, hr1⟩ : ∃ lim : Int, lim ≤ 20000 ∧ Rd w z1.val rb lim := ⟨_, by omega, hr1.unalloc⟩
  have HR1 := Lib.hid hr1; have HO := Lib.hid ho; have Hblk := Lib.hid hblk
  have h1 := z1.grown.size
  have hlt := hr1.lt
  have hL1 : LtS rb z1.val := ⟨hr1.lt⟩
  have hRr : NeS w.heap.size rb := ⟨by omega⟩
  have hLw : LtS w.heap.size z1.val := ⟨by omega⟩
  have E1 := Lib.hid (show Ext (w.alloc (.cells #[.slice none 0 0, .slice none 0 0, .slice none 0 0] 27)) z1.val from Ext.upR z0.ext Hold.out z1)
  have hR0 := cell_of_res w.heap.size (show (w.alloc (.cells #[.slice none 0 0, .slice none 0 0, .slice none 0 0] 27)).heap[w.heap.size]? = some (.cells #[.slice none 0 0, .slice none 0 0, .slice none 0 0] 27 (0, 0)) from heap_alloc_new _ _) E1.out
  clear hr1 ho hc hblk
  go_upto_region 3 with fail
  refine wp_region_held_drew (S := fun _ => True) (by kernel_rfl) trivial (fun _ => ?_)
  refine region_invW 22 23 [some 10, some 11, some 12, some 13, some 14, some 15, some 16, some 17, some 18, some 19, some 20, some 21, some 22, some 23, some 24, some 25, some 26, some 27, some 28, some 29, some 30, none, some 3] [[], [], [1], [], [], [4], [5], [3, 6], [2, 7], [8], [9, 7], [], [11, 10], [10, 12], [], [], [15, 12], [14, 16], [17], [13, 18], [19], [0, 16, 0], [20, 21, 0, 1, 2, 3, 4, 5, 6, 7, 8, 9, 10, 11, 12, 13, 14, 15, 16, 17, 18, 19, 20, 21]] [10, 11, 12, 13, 14, 15, 16, 17, 18, 19, 20, 21, 22, 23, 24, 25, 26, 27, 28, 29, 30] (fndG (.agg #[.slice p0 t.base.length c0, .slice (some ⟨b, off, none⟩) t.bs.length c1, .slice p2 t.pr.length c2]) (.slice (some ⟨b, off, none⟩) t.bs.length c1) t.bs.length z1.val.heap.size b off rb w.heap.size z0.val.heap.size (.cells #[.slice p0 t.base.length c0, .slice (some ⟨b, off, none⟩) t.bs.length c1, .slice p2 t.pr.length c2] 27 (0, 0))) (ChgF rb w.heap.size (.cells #[.slice p0 t.base.length c0, .slice (some ⟨b, off, none⟩) t.bs.length c1, .slice p2 t.pr.length c2] 27 (0, 0))) (fun m W => Rd w W rb (lim + (m : Int))) ((z1.val.alloc (.cells #[.slice p0 t.base.length c0, .slice (some ⟨b, off, none⟩) t.bs.length c1, .slice p2 t.pr.length c2] 27)).drew) _ (by kernel_rfl) (by kernel_rfl) (by kernel_rfl) (by kernel_rfl) (by rfl) (ChgF.refl _ _ _) (fun _ _ _ h h2 => h.trans h2) (fndG_up _ _ _ _ _ _ _ _ _ _ (by omega) (by omega)) ?_ ?_ (by have := (HR1.out.alloc (.cells #[.slice p0 t.base.length c0, .slice (some ⟨b, off, none⟩) t.bs.length c1, .slice p2 t.pr.length c2] 27)).up (Ext.refl _).drew; exact this.mono (by simp)) ?_
  · intro i o d ho hi hd X w9 hE m hm hW hdep K hK
    have hcase : i = 0 ∨ i = 1 ∨ i = 2 ∨ i = 3 ∨ i = 4 ∨ i = 5 ∨ i = 6 ∨ i = 7 ∨ i = 8 ∨ i = 9 ∨ i = 10 ∨ i = 11 ∨ i = 12 ∨ i = 13 ∨ i = 14 ∨ i = 15 ∨ i = 16 ∨ i = 17 ∨ i = 18 ∨ i = 19 ∨ i = 20 ∨ i = 21 := by omega
    rcases hcase with rfl | rfl | rfl | rfl | rfl | rfl | rfl | rfl | rfl | rfl | rfl | rfl | rfl | rfl | rfl | rfl | rfl | rfl | rfl | rfl | rfl | rfl
    · have ho := opAt_inv ho
      simp only [List.getElem?_cons_zero, List.getElem?_cons_succ, Option.some.injEq] at ho
      subst ho
      clear hdep hd
      simp only [putL, Act.put, List.setIfInBounds_toArray, List.set_cons_zero, List.set_cons_succ] at hK ⊢
      have y0 : w9.cell? ⟨z1.val.heap.size, 0, none⟩ = some (.slice p0 t.base.length c0) := hE.cell (show ((z1.val.alloc (.cells #[.slice p0 t.base.length c0, .slice (some ⟨b, off, none⟩) t.bs.length c1, .slice p2 t.pr.length c2] 27)).drew).cell? ⟨z1.val.heap.size, 0, none⟩ = some (.slice p0 t.base.length c0) from by go_simp) (by omega) (by omega)
      have y1 : w9.cell? ⟨z1.val.heap.size, 1, none⟩ = some (.slice (some ⟨b, off, none⟩) t.bs.length c1) := hE.cell (show ((z1.val.alloc (.cells #[.slice p0 t.base.length c0, .slice (some ⟨b, off, none⟩) t.bs.length c1, .slice p2 t.pr.length c2] 27)).drew).cell? ⟨z1.val.heap.size, 1, none⟩ = some (.slice (some ⟨b, off, none⟩) t.bs.length c1) from by go_simp) (by omega) (by omega)
      have y2 : w9.cell? ⟨z1.val.heap.size, 2, none⟩ = some (.slice p2 t.pr.length c2) := hE.cell (show ((z1.val.alloc (.cells #[.slice p0 t.base.length c0, .slice (some ⟨b, off, none⟩) t.bs.length c1, .slice p2 t.pr.length c2] 27)).drew).cell? ⟨z1.val.heap.size, 2, none⟩ = some (.slice p2 t.pr.length c2) from by go_simp) (by omega) (by omega)
      go_simp
      exact hK _ _ (ChgF.refl _ _ _ _) (hW.mono (by push_cast; omega)) rfl
    · have ho := opAt_inv ho
      simp only [List.getElem?_cons_zero, List.getElem?_cons_succ, Option.some.injEq] at ho
      subst ho
      clear hdep hd
      simp only [putL, Act.put, List.setIfInBounds_toArray, List.set_cons_zero, List.set_cons_succ] at hK ⊢
      go_simp
      exact hK _ _ (ChgF.refl _ _ _ _) (hW.mono (by push_cast; omega)) rfl
    · have ho := opAt_inv ho
      simp only [List.getElem?_cons_zero, List.getElem?_cons_succ, Option.some.injEq] at ho
      subst ho
      have g1 := hdep 1 (by decide) 11 rfl
      clear hdep hd
      simp only [putL, Act.put, List.setIfInBounds_toArray, List.set_cons_zero, List.set_cons_succ] at hK ⊢
      rw [show X 11 = _ from g1] at hK ⊢
      have y1 : w9.cell? ⟨z1.val.heap.size, 1, none⟩ = some (.slice (some ⟨b, off, none⟩) t.bs.length c1) := hE.cell (show ((z1.val.alloc (.cells #[.slice p0 t.base.length c0, .slice (some ⟨b, off, none⟩) t.bs.length c1, .slice p2 t.pr.length c2] 27)).drew).cell? ⟨z1.val.heap.size, 1, none⟩ = some (.slice (some ⟨b, off, none⟩) t.bs.length c1) from by go_simp) (by omega) (by omega)
      go_simp
      exact hK _ _ (ChgF.refl _ _ _ _) (hW.mono (by push_cast; omega)) rfl
    · have ho := opAt_inv ho
      simp only [List.getElem?_cons_zero, List.getElem?_cons_succ, Option.some.injEq] at ho
      subst ho
      clear hdep hd
      simp only [putL, Act.put, List.setIfInBounds_toArray, List.set_cons_zero, List.set_cons_succ] at hK ⊢
      go_simp
      exact hK _ _ (ChgF.refl _ _ _ _) (hW.mono (by push_cast; omega)) rfl
    · have ho := opAt_inv ho
      simp only [List.getElem?_cons_zero, List.getElem?_cons_succ, Option.some.injEq] at ho
      subst ho
      clear hdep hd
      simp only [putL, Act.put, List.setIfInBounds_toArray, List.set_cons_zero, List.set_cons_succ] at hK ⊢
      go_simp
      exact hK _ _ (ChgF.refl _ _ _ _) (hW.mono (by push_cast; omega)) rfl
    · have ho := opAt_inv ho
      simp only [List.getElem?_cons_zero, List.getElem?_cons_succ, Option.some.injEq] at ho
      subst ho
      have g4 := hdep 4 (by decide) 14 rfl
      clear hdep hd
      simp only [putL, Act.put, List.setIfInBounds_toArray, List.set_cons_zero, List.set_cons_succ] at hK ⊢
      rw [show X 14 = _ from g4] at hK ⊢
      have y1 : w9.cell? ⟨z1.val.heap.size, 1, none⟩ = some (.slice (some ⟨b, off, none⟩) t.bs.length c1) := hE.cell (show ((z1.val.alloc (.cells #[.slice p0 t.base.length c0, .slice (some ⟨b, off, none⟩) t.bs.length c1, .slice p2 t.pr.length c2] 27)).drew).cell? ⟨z1.val.heap.size, 1, none⟩ = some (.slice (some ⟨b, off, none⟩) t.bs.length c1) from by go_simp) (by omega) (by omega)
      go_simp
      exact hK _ _ (ChgF.refl _ _ _ _) (hW.mono (by push_cast; omega)) rfl
    · have ho := opAt_inv ho
      simp only [List.getElem?_cons_zero, List.getElem?_cons_succ, Option.some.injEq] at ho
      subst ho
      have g5 := hdep 5 (by decide) 15 rfl
      clear hdep hd
      simp only [putL, Act.put, List.setIfInBounds_toArray, List.set_cons_zero, List.set_cons_succ] at hK ⊢
      rw [show X 15 = _ from g5] at hK ⊢
      go_simp
      exact hK _ _ (ChgF.refl _ _ _ _) (hW.mono (by push_cast; omega)) rfl
    · have ho := opAt_inv ho
      simp only [List.getElem?_cons_zero, List.getElem?_cons_succ, Option.some.injEq] at ho
      subst ho
      have g3 := hdep 3 (by decide) 13 rfl
      have g6 := hdep 6 (by decide) 16 rfl
      clear hdep hd
      simp only [putL, Act.put, List.setIfInBounds_toArray, List.set_cons_zero, List.set_cons_succ] at hK ⊢
      rw [show X 13 = _ from g3] at hK ⊢
      rw [show X 16 = _ from g6] at hK ⊢
      go_simp
      go_at_call 55
      (with_reducible refine (pick_any _ _ rb _ (t.bs.length : Int) hW (by omega) (by omega) (by omega)).mono ?_)
      rintro e w' ⟨q, rfl, q0, q1, _, ⟨z2, rfl⟩, hr2⟩
      try go_wp2_with fail
      have hq := q1 (by omega)
      exact hK _ _ (ChgF.rd z2 (by omega)) (hr2.mono (by push_cast; omega)) ⟨q.toNat, by omega, by rw [Int.toNat_of_nonneg q0]⟩
    · have ho := opAt_inv ho
      simp only [List.getElem?_cons_zero, List.getElem?_cons_succ, Option.some.injEq] at ho
      subst ho
      have g2 := hdep 2 (by decide) 12 rfl
      have g7 := hdep 7 (by decide) 17 rfl
      clear hdep hd
      simp only [putL, Act.put, List.setIfInBounds_toArray, List.set_cons_zero, List.set_cons_succ] at hK ⊢
      obtain ⟨j, hj, hjv⟩ := g7
      rw [show X 12 = _ from g2] at hK ⊢
      rw [show X 17 = _ from hjv] at hK ⊢
      have j0 : (0 : Int) ≤ (j : Int) := by omega
      have j1 : (j : Int) < t.bs.length := by omega
      go_simp
      exact hK _ _ (ChgF.refl _ _ _ _) (hW.mono (by push_cast; omega)) ⟨j, hj, rfl⟩
    · have ho := opAt_inv ho
      simp only [List.getElem?_cons_zero, List.getElem?_cons_succ, Option.some.injEq] at ho
      subst ho
      have g8 := hdep 8 (by decide) 18 rfl
      clear hdep hd
      simp only [putL, Act.put, List.setIfInBounds_toArray, List.set_cons_zero, List.set_cons_succ] at hK ⊢
      obtain ⟨j, hj, hjv⟩ := g8
      rw [show X 18 = _ from hjv] at hK ⊢
      obtain ⟨xb, xl, pv, cv, -, e0, e1, e2, e3, e4, e5, hxo⟩ := Hblk.out j hj
      have y0 : w9.cell? ⟨b, off + j * 6, none⟩ = some (.int .i64 xb.bf) := hE.cell (show ((z1.val.alloc (.cells #[.slice p0 t.base.length c0, .slice (some ⟨b, off, none⟩) t.bs.length c1, .slice p2 t.pr.length c2] 27)).drew).cell? ⟨b, off + j * 6, none⟩ = some (.int .i64 xb.bf) from by go_simp) (by omega) (by omega)
      have y1 : w9.cell? ⟨b, off + j * 6 + 1, none⟩ = some (.int .i64 xb.ht) := hE.cell (show ((z1.val.alloc (.cells #[.slice p0 t.base.length c0, .slice (some ⟨b, off, none⟩) t.bs.length c1, .slice p2 t.pr.length c2] 27)).drew).cell? ⟨b, off + j * 6 + 1, none⟩ = some (.int .i64 xb.ht) from by go_simp) (by omega) (by omega)
      have y2 : w9.cell? ⟨b, off + j * 6 + 2, none⟩ = some (.int .i64 xb.vw) := hE.cell (show ((z1.val.alloc (.cells #[.slice p0 t.base.length c0, .slice (some ⟨b, off, none⟩) t.bs.length c1, .slice p2 t.pr.length c2] 27)).drew).cell? ⟨b, off + j * 6 + 2, none⟩ = some (.int .i64 xb.vw) from by go_simp) (by omega) (by omega)
      have y3 : w9.cell? ⟨b, off + j * 6 + 3, none⟩ = some (.slice pv xl.length cv) := hE.cell (show ((z1.val.alloc (.cells #[.slice p0 t.base.length c0, .slice (some ⟨b, off, none⟩) t.bs.length c1, .slice p2 t.pr.length c2] 27)).drew).cell? ⟨b, off + j * 6 + 3, none⟩ = some (.slice pv xl.length cv) from by go_simp) (by omega) (by omega)
      have y4 : w9.cell? ⟨b, off + j * 6 + 4, none⟩ = some (.int .i64 xb.rt) := hE.cell (show ((z1.val.alloc (.cells #[.slice p0 t.base.length c0, .slice (some ⟨b, off, none⟩) t.bs.length c1, .slice p2 t.pr.length c2] 27)).drew).cell? ⟨b, off + j * 6 + 4, none⟩ = some (.int .i64 xb.rt) from by go_simp) (by omega) (by omega)
      have y5 : w9.cell? ⟨b, off + j * 6 + 5, none⟩ = some (.int .i64 xb.ef) := hE.cell (show ((z1.val.alloc (.cells #[.slice p0 t.base.length c0, .slice (some ⟨b, off, none⟩) t.bs.length c1, .slice p2 t.pr.length c2] 27)).drew).cell? ⟨b, off + j * 6 + 5, none⟩ = some (.int .i64 xb.ef) from by go_simp) (by omega) (by omega)
      go_simp
      exact hK _ _ (ChgF.refl _ _ _ _) (hW.mono (by push_cast; omega)) ⟨xb, xl, pv, cv, rfl, hE.own ((hxo.up ((Ext.refl _).alloc _)).up (Ext.refl _).drew) (by omega) (by omega)⟩
    · have ho := opAt_inv ho
      simp only [List.getElem?_cons_zero, List.getElem?_cons_succ, Option.some.injEq] at ho
      subst ho
      have g7 := hdep 7 (by decide) 17 rfl
      have g9 := hdep 9 (by decide) 19 rfl
      clear hdep hd
      simp only [putL, Act.put, List.setIfInBounds_toArray, List.set_cons_zero, List.set_cons_succ] at hK ⊢
      obtain ⟨xb, xl, pv, cv, hag, hxo⟩ := g9
      rw [show X 19 = _ from hag] at hK ⊢
      go_simp
      go_at_call 39
      (with_reducible refine (sBlockSum_any xb xl (.slice pv xl.length cv) _ (hxo.sl Actn.enc_length)).mono ?_)
      rintro e w' ⟨rfl, z3, rfl⟩
      try go_wp2_with fail
      exact hK _ _ (ChgF.ext z3.ext) ((hW.mono (by push_cast; omega)).up z3.ext) ⟨_, rfl⟩
    · have ho := opAt_inv ho
      simp only [List.getElem?_cons_zero, List.getElem?_cons_succ, Option.some.injEq] at ho
      subst ho
      clear hdep hd
      simp only [putL, Act.put, List.setIfInBounds_toArray, List.set_cons_zero, List.set_cons_succ] at hK ⊢
      go_simp
      exact hK _ _ (ChgF.refl _ _ _ _) (hW.mono (by push_cast; omega)) rfl
    · have ho := opAt_inv ho
      simp only [List.getElem?_cons_zero, List.getElem?_cons_succ, Option.some.injEq] at ho
      subst ho
      have g10 := hdep 10 (by decide) 20 rfl
      have g11 := hdep 11 (by decide) 21 rfl
      clear hdep hd
      simp only [putL, Act.put, List.setIfInBounds_toArray, List.set_cons_zero, List.set_cons_succ] at hK ⊢
      rw [show X 21 = _ from g11] at hK ⊢
      go_simp
      go_at_call 55
      (with_reducible refine (pick_any _ _ rb _ 256 hW (by omega) (by omega) (by omega)).mono ?_)
      rintro e w' ⟨q, rfl, q0, q1, _, ⟨z2, rfl⟩, hr2⟩
      try go_wp2_with fail
      have hq := q1 (by omega)
      exact hK _ _ (ChgF.rd z2 (by omega)) (hr2.mono (by push_cast; omega)) ⟨q, rfl⟩
    · have ho := opAt_inv ho
      simp only [List.getElem?_cons_zero, List.getElem?_cons_succ, Option.some.injEq] at ho
      subst ho
      have g10 := hdep 10 (by decide) 20 rfl
      have g12 := hdep 12 (by decide) 22 rfl
      clear hdep hd
      simp only [putL, Act.put, List.setIfInBounds_toArray, List.set_cons_zero, List.set_cons_succ] at hK ⊢
      obtain ⟨n1, h1v⟩ := g10
      obtain ⟨n2, h2v⟩ := g12
      rw [show X 20 = _ from h1v] at hK ⊢
      rw [show X 22 = _ from h2v] at hK ⊢
      have hsz := hE.1.size
      simp at hsz
      go_simp
      exact hK _ _ (ChgF.ext ((Ext.refl _).alloc _)) ((hW.mono (by push_cast; omega)).alloc _) ⟨_, n1, n2, rfl, by omega, heap_alloc_new _ _⟩
    · have ho := opAt_inv ho
      simp only [List.getElem?_cons_zero, List.getElem?_cons_succ, Option.some.injEq] at ho
      subst ho
      clear hdep hd
      simp only [putL, Act.put, List.setIfInBounds_toArray, List.set_cons_zero, List.set_cons_succ] at hK ⊢
      have hsz := hE.1.size
      simp at hsz
      go_simp
      exact hK _ _ (ChgF.ext ((Ext.refl _).alloc _)) ((hW.mono (by push_cast; omega)).alloc _) ⟨_, rfl, by omega, heap_alloc_new _ _⟩
    · have ho := opAt_inv ho
      simp only [List.getElem?_cons_zero, List.getElem?_cons_succ, Option.some.injEq] at ho
      subst ho
      clear hdep hd
      simp only [putL, Act.put, List.setIfInBounds_toArray, List.set_cons_zero, List.set_cons_succ] at hK ⊢
      go_simp
      exact hK _ _ (ChgF.refl _ _ _ _) (hW.mono (by push_cast; omega)) rfl
    · have ho := opAt_inv ho
      simp only [List.getElem?_cons_zero, List.getElem?_cons_succ, Option.some.injEq] at ho
      subst ho
      have g12 := hdep 12 (by decide) 22 rfl
      have g15 := hdep 15 (by decide) 25 rfl
      clear hdep hd
      simp only [putL, Act.put, List.setIfInBounds_toArray, List.set_cons_zero, List.set_cons_succ] at hK ⊢
      rw [show X 25 = _ from g15] at hK ⊢
      go_simp
      go_at_call 55
      (with_reducible refine (pick_any _ _ rb _ 5 hW (by omega) (by omega) (by omega)).mono ?_)
      rintro e w' ⟨q, rfl, q0, q1, _, ⟨z2, rfl⟩, hr2⟩
      try go_wp2_with fail
      have hq := q1 (by omega)
      exact hK _ _ (ChgF.rd z2 (by omega)) (hr2.mono (by push_cast; omega)) ⟨q.toNat, by omega, by rw [Int.toNat_of_nonneg q0]⟩
    · have ho := opAt_inv ho
      simp only [List.getElem?_cons_zero, List.getElem?_cons_succ, Option.some.injEq] at ho
      subst ho
      have g14 := hdep 14 (by decide) 24 rfl
      have g16 := hdep 16 (by decide) 26 rfl
      clear hdep hd
      simp only [putL, Act.put, List.setIfInBounds_toArray, List.set_cons_zero, List.set_cons_succ] at hK ⊢
      obtain ⟨g, hg, hgl, hrow⟩ := g14
      obtain ⟨q, hq, hqv⟩ := g16
      rw [show X 24 = _ from hg] at hK ⊢
      rw [show X 26 = _ from hqv] at hK ⊢
      have j0 : (0 : Int) ≤ (q : Int) := by omega
      have j1 : (q : Int) < 5 := by omega
      go_simp
      exact hK _ _ (ChgF.refl _ _ _ _) (hW.mono (by push_cast; omega)) ⟨g, q, hq, rfl, hgl, hrow⟩
    · have ho := opAt_inv ho
      simp only [List.getElem?_cons_zero, List.getElem?_cons_succ, Option.some.injEq] at ho
      subst ho
      have g17 := hdep 17 (by decide) 27 rfl
      clear hdep hd
      simp only [putL, Act.put, List.setIfInBounds_toArray, List.set_cons_zero, List.set_cons_succ] at hK ⊢
      obtain ⟨g, q, hq, hqv, hgl, hrow⟩ := g17
      rw [show X 27 = _ from hqv] at hK ⊢
      obtain ⟨r, hr3, hrv⟩ : ∃ r : Nat, r < 3 ∧ w9.cell? ⟨g, q, none⟩ = some (.int .i64 (r : Int)) := by
        rcases (show q = 0 ∨ q = 1 ∨ q = 2 ∨ q = 3 ∨ q = 4 by omega) with rfl | rfl | rfl | rfl | rfl
        · exact ⟨0, by omega, cell_of_row _ _ 0 _ _ _ hrow⟩
        · exact ⟨0, by omega, cell_of_row _ _ 1 _ _ _ hrow⟩
        · exact ⟨0, by omega, cell_of_row _ _ 2 _ _ _ hrow⟩
        · exact ⟨1, by omega, cell_of_row _ _ 3 _ _ _ hrow⟩
        · exact ⟨2, by omega, cell_of_row _ _ 4 _ _ _ hrow⟩
      clear hrow
      go_simp
      exact hK _ _ (ChgF.refl _ _ _ _) (hW.mono (by push_cast; omega)) ⟨r, hr3, rfl⟩
    · have ho := opAt_inv ho
      simp only [List.getElem?_cons_zero, List.getElem?_cons_succ, Option.some.injEq] at ho
      subst ho
      have g13 := hdep 13 (by decide) 23 rfl
      have g18 := hdep 18 (by decide) 28 rfl
      clear hdep hd
      simp only [putL, Act.put, List.setIfInBounds_toArray, List.set_cons_zero, List.set_cons_succ] at hK ⊢
      obtain ⟨g, n1, n2, hg, hgl, hrow⟩ := g13
      obtain ⟨q, hq, hqv⟩ := g18
      rw [show X 23 = _ from hg] at hK ⊢
      rw [show X 28 = _ from hqv] at hK ⊢
      have j0 : (0 : Int) ≤ (q : Int) := by omega
      have j1 : (q : Int) < 3 := by omega
      go_simp
      exact hK _ _ (ChgF.refl _ _ _ _) (hW.mono (by push_cast; omega)) ⟨g, q, n1, n2, hq, rfl, hgl, hrow⟩
    · have ho := opAt_inv ho
      simp only [List.getElem?_cons_zero, List.getElem?_cons_succ, Option.some.injEq] at ho
      subst ho
      have g19 := hdep 19 (by decide) 29 rfl
      clear hdep hd
      simp only [putL, Act.put, List.setIfInBounds_toArray, List.set_cons_zero, List.set_cons_succ] at hK ⊢
      obtain ⟨g, q, n1, n2, hq, hqv, hgl, hrow⟩ := g19
      rw [show X 29 = _ from hqv] at hK ⊢
      obtain ⟨r, hrv⟩ : ∃ r : Int, w9.cell? ⟨g, q, none⟩ = some (.int .i64 r) := by
        rcases (show q = 0 ∨ q = 1 ∨ q = 2 by omega) with rfl | rfl | rfl
        · exact ⟨n1, cell_of_row _ _ 0 _ _ _ hrow⟩
        · exact ⟨n2, cell_of_row _ _ 1 _ _ _ hrow⟩
        · exact ⟨-1, cell_of_row _ _ 2 _ _ _ hrow⟩
      clear hrow
      go_simp
      exact hK _ _ (ChgF.refl _ _ _ _) (hW.mono (by push_cast; omega)) ⟨r, rfl⟩
    · cases hd
  · intro i o ho hi hd X w9 hE m hm hW hdep K hK
    have hcase : i = 0 ∨ i = 1 ∨ i = 2 ∨ i = 3 ∨ i = 4 ∨ i = 5 ∨ i = 6 ∨ i = 7 ∨ i = 8 ∨ i = 9 ∨ i = 10 ∨ i = 11 ∨ i = 12 ∨ i = 13 ∨ i = 14 ∨ i = 15 ∨ i = 16 ∨ i = 17 ∨ i = 18 ∨ i = 19 ∨ i = 20 ∨ i = 21 := by omega
    rcases hcase with rfl | rfl | rfl | rfl | rfl | rfl | rfl | rfl | rfl | rfl | rfl | rfl | rfl | rfl | rfl | rfl | rfl | rfl | rfl | rfl | rfl | rfl
    · cases hd
    · cases hd
    · cases hd
    · cases hd
    · cases hd
    · cases hd
    · cases hd
    · cases hd
    · cases hd
    · cases hd
    · cases hd
    · cases hd
    · cases hd
    · cases hd
    · cases hd
    · cases hd
    · cases hd
    · cases hd
    · cases hd
    · cases hd
    · cases hd
    · have ho := opAt_inv ho
      simp only [List.getElem?_cons_zero, List.getElem?_cons_succ, Option.some.injEq] at ho
      subst ho
      have g0 := hdep 0 (by decide) 10 rfl
      have g16 := hdep 16 (by decide) 26 rfl
      clear hdep hd
      simp only [putL, Act.put, List.setIfInBounds_toArray, List.set_cons_zero, List.set_cons_succ] at hK ⊢
      rw [show X 10 = _ from g0] at hK ⊢
      have hR6 := (heap_alloc_old z1.val (.cells #[.slice p0 t.base.length c0, .slice (some ⟨b, off, none⟩) t.bs.length c1, .slice p2 t.pr.length c2] 27) hLw.lt).trans hR0
      obtain ⟨a0, a1, a2, hrow⟩ : ∃ a0 a1 a2 : Value, w9.heap[w.heap.size]? = some (.cells #[a0, a1, a2] 27 (0, 0)) := by
        rcases hE.2 (Array.getElem?_eq_some_iff.1 hR6).1 with e | e
        · exact ⟨_, _, _, e.trans hR6⟩
        · exact ⟨_, _, _, e⟩
      have y0 := cell_of_row _ _ 0 _ _ _ hrow
      have y1 := cell_of_row _ _ 1 _ _ _ hrow
      have y2 := cell_of_row _ _ 2 _ _ _ hrow
      have f0 := frozen_of_row _ _ 0 _ _ hrow
      have f1 := frozen_of_row _ _ 1 _ _ hrow
      have f2 := frozen_of_row _ _ 2 _ _ hrow
      have N0 := (heap_setCell_same _ _ 2 _ _ (.slice p2 t.pr.length c2) ((heap_setCell_same _ _ 1 _ _ (.slice (some ⟨b, off, none⟩) t.bs.length c1) ((heap_setCell_same _ _ 0 _ _ (.slice p0 t.base.length c0) hrow).trans rfl)).trans rfl)).trans rfl
      have hlR := (Array.getElem?_eq_some_iff.1 hrow).1
      have hP := ChgF.put rb (.slice p0 t.base.length c0) (.slice (some ⟨b, off, none⟩) t.bs.length c1) (.slice p2 t.pr.length c2) hrow
      clear hrow
      go_simp
      exact hK _ hP ((hW.mono (by push_cast; omega)).put _ _ _ hRr.ne (Nat.le_refl _)) N0
  · intro X w9 hE hW hF hF0
    have g0 := hF 0 10 (by decide) rfl
    have g1 := hF 1 11 (by decide) rfl
    have g2 := hF 2 12 (by decide) rfl
    have g3 := hF 3 13 (by decide) rfl
    have g4 := hF 4 14 (by decide) rfl
    have g5 := hF 5 15 (by decide) rfl
    have g6 := hF 6 16 (by decide) rfl
    have g7 := hF 7 17 (by decide) rfl
    have g8 := hF 8 18 (by decide) rfl
    have g9 := hF 9 19 (by decide) rfl
    have g10 := hF 10 20 (by decide) rfl
    have g11 := hF 11 21 (by decide) rfl
    have g12 := hF 12 22 (by decide) rfl
    have g13 := hF 13 23 (by decide) rfl
    have g14 := hF 14 24 (by decide) rfl
    have g15 := hF 15 25 (by decide) rfl
    have g16 := hF 16 26 (by decide) rfl
    have g17 := hF 17 27 (by decide) rfl
    have g18 := hF 18 28 (by decide) rfl
    have g19 := hF 19 29 (by decide) rfl
    have g20 := hF 20 30 (by decide) rfl
    have g21 := hF0 21 (by decide) rfl
    clear hF hF0
    simp only [putL, Act.put, List.setIfInBounds_toArray, List.set_cons_zero, List.set_cons_succ]
    obtain ⟨r, hr⟩ := g20
    have hrow : w9.heap[w.heap.size]? = some (.cells #[.slice p0 t.base.length c0, .slice (some ⟨b, off, none⟩) t.bs.length c1, .slice p2 t.pr.length c2] 27 (0, 0)) := g21
    rw [show X 30 = _ from hr]
    have r0 := cell_of_row _ _ 0 _ _ _ hrow
    have r1 := cell_of_row _ _ 1 _ _ _ hrow
    have r2 := cell_of_row _ _ 2 _ _ _ hrow
    have EW : Up w w9 := Up.of (hE.1.ext (((HR1.out.ext).alloc _).drew) (fun k hk => by rcases hk with e | e <;> omega))
    have OT := hE.ota ((HO.out.up ((Ext.refl _).alloc _)).up (Ext.refl _).drew) hlt0 (by omega)
    clear hrow hE hW
    refine wpAnyH_ready (rs := [22]) (by kernel_rfl) (by simp) ?_
    refine AllReadyH.cons (opAt rfl) (fun K hK => ?_) AllReadyH.nil
    go_simp
    refine hK.out _ _ trivial (fun _ => wpAnyH_done (by kernel_rfl) ?_ _)
    clear hK K
    go_wp2_with fail
    refine bodyPost_ret (v := .tuple #[.agg #[.slice p0 t.base.length c0, .slice (some ⟨b, off, none⟩) t.bs.length c1, .slice p2 t.pr.length c2], .int .i64 r]) (by simp [results, Try.results23, go_sem, r0, r1, r2]) rfl ?_
    exact ⟨_, _, _, t, r, rfl, EW, OTA.st' OT HC.out⟩
end Go.Proofs.Yteiemjebdhmnaaa
