/- Walks: engines that are copied, the reference's side (printed by wip/mkenf.py). -/
import Derived.Test.YtnknamddonjnjaaGEoVTop22
import Derived.Test.YtnknamddonjnjaaGEoVTop23
import Derived.Test.YtnknamddonjnjaaGEoVTop24
import Derived.Test.YtnknamddonjnjaaGEoVTop21
set_option linter.unusedSimpArgs false
set_option linter.unusedVariables false
namespace Go.Proofs.Ytnknamddonjnjaa
open Go Go.RowKit Go.Proofs

theorem LeS.add2 {w W : World} [h : LeS w W] (a b : Nat) : w.heap.size ≤ W.heap.size + a + b := by have := h.le; omega
theorem LeS.add3 {w W : World} [h : LeS w W] (a b c : Nat) : w.heap.size ≤ W.heap.size + a + b + c := by have := h.le; omega
/-- What stands at the head of the loop. -/
structure CpeF (lo : Nat) (W0 W1 : World) (e : Eng) (G : Nat) (q0 : Option Addr) (d0 : Nat) (q1 : Option Addr) (d1 : Nat) (q2 : Option Addr) (d2 : Nat) : Prop where
  E0 : Ext W0 W1
  rowx : W1.heap[G]? = some (.cells #[.slice q0 e.base.length d0, .slice q1 e.acts.length d1, .slice q2 e.vers.length d2, .slice none 0 0] 28 (0, 0))
  hGw : lo ≤ G
  O0 : Own Ent.enc 59 2 lo W1 (.slice q0 e.base.length d0) e.base
  O1 : Own Actn.enc 65 4 lo W1 (.slice q1 e.acts.length d1) e.acts
  O2 : Own Ver.enc 32 3 lo W1 (.slice q2 e.vers.length d2) e.vers
  AP : (Value.slice q0 e.base.length d0).ownBlock ≠ some G ∧ (Value.slice q1 e.acts.length d1).ownBlock ≠ some G ∧ (Value.slice q2 e.vers.length d2).ownBlock ≠ some G
def CpeR (lo : Nat) (W0 : World) (e : Eng) (s : Value) (W1 : World) : Prop := ∃ (G : Nat) (q0 : Option Addr) (d0 : Nat) (q1 : Option Addr) (d1 : Nat) (q2 : Option Addr) (d2 : Nat), s = .pointer (some ⟨G, 0, none⟩) ∧ CpeF lo W0 W1 e G q0 d0 q1 d1 q2 d2
theorem CpeR.named {lo : Nat} {W0 : World} {e : Eng} {s : Value} {W : World} (h : ∀ W1, W1 = W → CpeR lo W0 e s W1) : CpeR lo W0 e s W := h W rfl
def cpeG (e : Eng) (lo bx : Nat) (p0 : Option Addr) (c0 : Nat) (p1 : Option Addr) (c1 : Nat) (p2 : Option Addr) (c2 : Nat) (j : Nat) (v : Value) (W : World) : Prop := match j with
  | 0 => ∃ g, v = .slice (some ⟨g, 0, none⟩) 0 0 ∧ lo ≤ g ∧ W.heap[g]? = some (.cells #[] 59 (0, 0))
  | 1 => v = .pointer (some ⟨bx, 0, none⟩)
  | 2 => v = .slice p0 e.base.length c0
  | 3 => ∃ q d, v = .slice q e.base.length d ∧ Own Ent.enc 59 2 lo W v e.base
  | 4 => ∃ g, v = .slice (some ⟨g, 0, none⟩) 0 0 ∧ lo ≤ g ∧ W.heap[g]? = some (.cells #[] 65 (0, 0))
  | 5 => v = .pointer (some ⟨bx, 1, none⟩)
  | 6 => v = .slice p1 e.acts.length c1
  | 7 => ∃ q d, v = .slice q e.acts.length d ∧ Own Actn.enc 65 4 lo W v e.acts
  | 8 => ∃ g, v = .slice (some ⟨g, 0, none⟩) 0 0 ∧ lo ≤ g ∧ W.heap[g]? = some (.cells #[] 32 (0, 0))
  | 9 => v = .pointer (some ⟨bx, 2, none⟩)
  | 10 => v = .slice p2 e.vers.length c2
  | 11 => ∃ q d, v = .slice q e.vers.length d ∧ Own Ver.enc 32 3 lo W v e.vers
  | 12 => ∃ q0 d0 q1 d1 q2 d2, v = .agg #[.slice q0 e.base.length d0, .slice q1 e.acts.length d1, .slice q2 e.vers.length d2, .slice none 0 0] ∧ Own Ent.enc 59 2 lo W (.slice q0 e.base.length d0) e.base ∧ Own Actn.enc 65 4 lo W (.slice q1 e.acts.length d1) e.acts ∧ Own Ver.enc 32 3 lo W (.slice q2 e.vers.length d2) e.vers
  | 13 => ∃ G, v = .pointer (some ⟨G, 0, none⟩) ∧ lo ≤ G ∧ W.heap[G]? = some (.cells #[.slice none 0 0, .slice none 0 0, .slice none 0 0, .slice none 0 0] 28 (0, 0))
  | _ => True
theorem row_up {w w' : World} (hE : Ext w w') {g : Nat} {o : Obj} (h : w.heap[g]? = some o) : w'.heap[g]? = some o := (hE.block (Array.getElem?_eq_some_iff.1 h).1).trans h
theorem cpeG_up (e : Eng) (lo bx : Nat) (p0 : Option Addr) (c0 : Nat) (p1 : Option Addr) (c1 : Nat) (p2 : Option Addr) (c2 : Nat) : ∀ (j : Nat) (v : Value) (w w' : World), Ext w w' → cpeG e lo bx p0 c0 p1 c1 p2 c2 j v w → cpeG e lo bx p0 c0 p1 c1 p2 c2 j v w' := by
  intro j v w w' hE h
  unfold cpeG at h ⊢
  split at h
  · obtain ⟨g, h1, h2, h3⟩ := h; exact ⟨g, h1, h2, row_up hE h3⟩
  · exact h
  · exact h
  · obtain ⟨q, d, h1, h2⟩ := h; exact ⟨q, d, h1, h2.up hE⟩
  · obtain ⟨g, h1, h2, h3⟩ := h; exact ⟨g, h1, h2, row_up hE h3⟩
  · exact h
  · exact h
  · obtain ⟨q, d, h1, h2⟩ := h; exact ⟨q, d, h1, h2.up hE⟩
  · obtain ⟨g, h1, h2, h3⟩ := h; exact ⟨g, h1, h2, row_up hE h3⟩
  · exact h
  · exact h
  · obtain ⟨q, d, h1, h2⟩ := h; exact ⟨q, d, h1, h2.up hE⟩
  · obtain ⟨q0, d0, q1, d1, q2, d2, h1, h2, h3, h4⟩ := h; exact ⟨q0, d0, q1, d1, q2, d2, h1, h2.up hE, h3.up hE, h4.up hE⟩
  · obtain ⟨g, h1, h2, h3⟩ := h; exact ⟨g, h1, h2, row_up hE h3⟩
  · trivial
/-- A row of another type is another block. -/
theorem Own.ne_type {α : Type} {enc : α → List Value} {e sz lo : Nat} {w : World} {v : Value} {l : List α} (h : Own enc e sz lo w v l) {g : Nat} {cs : Array Value} {T : Nat} {fr : Nat × Nat} (hg : w.heap[g]? = some (.cells cs T fr)) (hT : T ≠ e) : v.ownBlock ≠ some g := by
  intro hb
  rcases h.2 with ⟨h2, _⟩ | ⟨g', cap, cur, hv, hlo, hg', r⟩
  · rw [h2] at hb; cases hb
  · rw [hv] at hb
    have : g' = g := by simpa [Value.ownBlock] using hb
    subst this
    rw [hg] at hg'
    simp only [Option.some.injEq, Obj.cells.injEq] at hg'
    exact hT hg'.2.1
/-- The slices of a slot that is copied. -/
structure NewT (lo : Nat) (W : World) (y : Slt) (vf vr vw : Value) : Prop where
  o0 : Own encI 3 1 lo W vf y.f
  o1 : Own Ent.enc 59 2 lo W vr y.e.r
  o2 : Own Ent.enc 59 2 lo W vw y.e.w
  ap : Apart vr vw
  a1 : Apart vf vr
  a2 : Apart vf vw
theorem NewT.up {lo : Nat} {W W' : World} {y : Slt} {vf vr vw : Value} (h : NewT lo W y vf vr vw) (hE : Ext W W') : NewT lo W' y vf vr vw := ⟨h.o0.up hE, h.o1.up hE, h.o2.up hE, h.ap, h.a1, h.a2⟩
theorem oneIt (l : List Int) : ∀ u ∈ l.flatMap encI, u.oneCell' = true := by
  intro u hu
  obtain ⟨x, _, hx⟩ := List.mem_flatMap.1 hu
  exact oneI x u hx
/-- Rows of different types are different blocks. -/
theorem Own.apart_type {α β : Type} {enc : α → List Value} {enc' : β → List Value} {e sz lo e' sz' lo' : Nat} {w : World} {v v' : Value} {l : List α} {l' : List β} (h : Own enc e sz lo w v l) (h' : Own enc' e' sz' lo' w v' l') (hT : e ≠ e') : Apart v v' := by
  rcases h.2 with ⟨h2, _⟩ | ⟨g', cap, cur, hv, hlo, hg', r⟩
  · left; rw [h2]; rfl
  · right
    intro e9
    refine h'.ne_type hg' hT ?_
    rw [← e9, hv]; rfl
theorem keepRow1 {α : Type} {enc : α → List Value} {e sz lo rb : Nat} {w W1 w7 : World} {v : Value} {l : List α} {r : Obj} (hG : w.grownBy W1 (some rb)) (hown : Own enc e sz lo W1 v l) (hlt : rb < lo) (hw : w.heap.size ≤ lo) (hr : W1.heap[rb]? = some r) (g8 : W1.grownBy w7 v.ownBlock) :
    w7.heap[rb]? = some r ∧ w.grownBy w7 (some rb) := by
  have hs : rb < W1.heap.size := (Array.getElem?_eq_some_iff.1 hr).1
  constructor
  · refine (g8.block rb hs (fun e => ?_)).trans hr
    rcases hown.ne_rb hlt with h | h
    · rw [h] at e; cases e
    · exact h e.symm
  · refine ⟨g8.os.trans hG.os, g8.tape.trans hG.tape, g8.output.trans hG.output, Nat.le_trans hG.size g8.size, fun n hn hne => ?_⟩
    refine (g8.block n (Nat.lt_of_lt_of_le hn hG.size) (fun e => ?_)).trans (hG.block n hn hne)
    have := (World.ownsRow.lt hown n e.symm).1
    omega
def cpG (y : Slt) (lo G S n : Nat) (qx : Option Addr) (dx : Nat) (pf : Option Addr) (cf : Nat) (pr : Option Addr) (cr : Nat) (pw : Option Addr) (cw : Nat) (j : Nat) (v : Value) (W : World) : Prop := match j with
  | 0 => v = .pointer (some ⟨G, 3, none⟩)
  | 1 => v = .slice qx n dx
  | 2 => v = .pointer (some ⟨S, 0, none⟩)
  | 3 => v = .int .i64 y.st
  | 4 => v = .pointer (some ⟨S, 1, none⟩)
  | 5 => v = .int .i64 y.tr
  | 6 => ∃ g, v = .slice (some ⟨g, 0, none⟩) 0 0 ∧ lo ≤ g ∧ W.heap[g]? = some (.cells #[] 3 (0, 0))
  | 7 => v = .pointer (some ⟨S, 2, none⟩)
  | 8 => v = .slice pf y.f.length cf
  | 9 => ∃ q d, v = .slice q y.f.length d ∧ Own encI 3 1 lo W v y.f
  | 10 => v = .pointer (some ⟨S, 3, none⟩)
  | 11 => v = .agg #[.bool y.e.d, .slice pr y.e.r.length cr, .slice pw y.e.w.length cw]
  | 12 => ∃ q1 d1 q2 d2, v = .agg #[.bool y.e.d, .slice q1 y.e.r.length d1, .slice q2 y.e.w.length d2] ∧ Own Ent.enc 59 2 lo W (.slice q1 y.e.r.length d1) y.e.r ∧ Own Ent.enc 59 2 lo W (.slice q2 y.e.w.length d2) y.e.w ∧ Apart (.slice q1 y.e.r.length d1) (.slice q2 y.e.w.length d2)
  | 13 => ∃ qf df qr dr qw dw, v = .agg #[.int .i64 y.st, .int .i64 y.tr, .slice qf y.f.length df, .bool y.e.d, .slice qr y.e.r.length dr, .slice qw y.e.w.length dw] ∧ NewT lo W y (.slice qf y.f.length df) (.slice qr y.e.r.length dr) (.slice qw y.e.w.length dw)
  | 14 => ∃ g qf df qr dr qw dw, v = .slice (some ⟨g, 0, none⟩) 1 1 ∧ lo ≤ g ∧ W.heap[g]? = some (.cells #[.int .i64 y.st, .int .i64 y.tr, .slice qf y.f.length df, .bool y.e.d, .slice qr y.e.r.length dr, .slice qw y.e.w.length dw] 39 (0, 0)) ∧ NewT lo W y (.slice qf y.f.length df) (.slice qr y.e.r.length dr) (.slice qw y.e.w.length dw)
  | _ => True
theorem cpG_up (y : Slt) (lo G S n : Nat) (qx : Option Addr) (dx : Nat) (pf : Option Addr) (cf : Nat) (pr : Option Addr) (cr : Nat) (pw : Option Addr) (cw : Nat) : ∀ (j : Nat) (v : Value) (w w' : World), Ext w w' → cpG y lo G S n qx dx pf cf pr cr pw cw j v w → cpG y lo G S n qx dx pf cf pr cr pw cw j v w' := by
  intro j v w w' hE h
  unfold cpG at h ⊢
  split at h
  case h_7 => obtain ⟨g, h1, h2, h3⟩ := h; exact ⟨g, h1, h2, row_up hE h3⟩
  case h_10 => obtain ⟨q, d, h1, h2⟩ := h; exact ⟨q, d, h1, h2.up hE⟩
  case h_13 => obtain ⟨q1, d1, q2, d2, h1, h2, h3, h4⟩ := h; exact ⟨q1, d1, q2, d2, h1, h2.up hE, h3.up hE, h4⟩
  case h_14 => obtain ⟨qf, df, q1, d1, q2, d2, h1, h2⟩ := h; exact ⟨qf, df, q1, d1, q2, d2, h1, h2.up hE⟩
  case h_15 => obtain ⟨g, qf, df, q1, d1, q2, d2, h1, h2, h3, h4⟩ := h; exact ⟨g, qf, df, q1, d1, q2, d2, h1, h2, row_up hE h3, h4.up hE⟩
  all_goals exact h
/-- A slot more. -/
theorem OSA.snocG {lo n : Nat} {W W2 : World} {v v' : Value} {ts : List TS} {x : TS} (h : OSA lo W v ts) (hg : W.grownBy W2 v.ownBlock) (hn : W.heap.size ≤ n) (hb : v'.ownBlock = v.ownBlock ∨ v'.ownBlock = some n)
    (ho : Own TS.enc 39 6 lo W2 v' (ts ++ [x])) (hx : x.own lo W) (hxv : ∀ u ∈ x.parts, Apart u v) (hxx : x.parts.Pairwise Apart) (hxt : ∀ y ∈ ts, ∀ u ∈ y.parts, ∀ u' ∈ x.parts, Apart u u') : OSA lo W2 v' (ts ++ [x]) := by
  refine ⟨ho, fun y hy => ?_, fun y hy => ?_, ?_⟩
  · rcases List.mem_append.1 hy with hy | hy
    · exact (h.deep y hy).kept hg (h.out y hy)
    · simp only [List.mem_singleton] at hy; subst hy
      exact hx.kept hg hxv
  · rcases List.mem_append.1 hy with hy | hy
    · exact (h.deep y hy).grown (h.out y hy) hn hb
    · simp only [List.mem_singleton] at hy; subst hy
      exact hx.grown hxv hn hb
  · rw [List.flatMap_append, List.pairwise_append]
    refine ⟨h.pw, by simpa using hxx, fun u hu u' hu' => ?_⟩
    obtain ⟨y, hy, hu⟩ := List.mem_flatMap.1 hu
    exact hxt y hy u hu u' (by simpa using hu')
/-- An engine whose parts lie apart. -/
structure OEX (lo : Nat) (w : World) (v0 v1 v2 v3 : Value) (base : List Ent) (acts : List Actn) (vers : List Ver) (ts : List TS) : Prop where
  g : OEG lo w v0 v1 v2 v3 base acts vers ts
  a0 : Apart v0 v3
  a1 : Apart v1 v3
  a2 : Apart v2 v3
  i0 : ∀ x ∈ ts, ∀ u ∈ x.parts, Apart u v0 ∧ Apart u v1 ∧ Apart u v2
theorem OEX.up {lo : Nat} {w w' : World} {v0 v1 v2 v3 : Value} {base : List Ent} {acts : List Actn} {vers : List Ver} {ts : List TS} (h : OEX lo w v0 v1 v2 v3 base acts vers ts) (hE : Ext w w') : OEX lo w' v0 v1 v2 v3 base acts vers ts := ⟨h.g.up hE, h.a0, h.a1, h.a2, h.i0⟩
theorem OEX.lo {lo lo' : Nat} {w : World} {v0 v1 v2 v3 : Value} {base : List Ent} {acts : List Actn} {vers : List Ver} {ts : List TS} (h : OEX lo w v0 v1 v2 v3 base acts vers ts) (hlo : lo' ≤ lo) : OEX lo' w v0 v1 v2 v3 base acts vers ts := ⟨h.g.lo hlo, h.a0, h.a1, h.a2, h.i0⟩
theorem OEX.setOld {lo : Nat} {w : World} {v0 v1 v2 v3 : Value} {base : List Ent} {acts : List Actn} {vers : List Ver} {ts : List TS} (h : OEX lo w v0 v1 v2 v3 base acts vers ts) (a : Addr) (u : Value) (hlt : a.block < lo) : OEX lo (w.setCell a u) v0 v1 v2 v3 base acts vers ts := ⟨h.g.setOld a u hlt, h.a0, h.a1, h.a2, h.i0⟩
set_option maxRecDepth 100000 in
set_option maxHeartbeats 40000000 in
theorem copyE_any (e : Eng) (v0 v1 v2 v3 : Value) (w : World) (h : SG w v0 v1 v2 v3 e) (n0 : e.base.length ≤ 1000) (n1 : e.acts.length ≤ 1000) (n2 : e.vers.length ≤ 1000) (n3 : e.sl.length ≤ 1000) (hs : ∀ x ∈ e.sl, x.f.length ≤ 1000 ∧ x.e.r.length ≤ 1000 ∧ x.e.w.length ≤ 1000) :
    Calls Try.prog 60 #[.agg #[v0, v1, v2, v3]] w fun ed w' => ∃ u0 u1 u2 u3 ts, ed = .returned (.agg #[u0, u1, u2, u3]) ∧ Up w w' ∧ ts.map TS.core = e.sl ∧ OEX w.heap.size w' u0 u1 u2 u3 e.base e.acts e.vers ts := by
  have H0 := Lib.hid h.base; have H1 := Lib.hid h.acts; have H2 := Lib.hid h.vers
  obtain ⟨p0, c0, rfl, _, _⟩ := h.base.openc
  obtain ⟨p1, c1, rfl, _, _⟩ := h.acts.openc
  obtain ⟨p2, c2, rfl, _, _⟩ := h.vers.openc
  obtain ⟨p3, c3, rfl, hl3, hc3⟩ := h.sl.open
  have Hs := Lib.hid hs; have HC := Lib.hid hc3
  clear h hs hc3
  go_enter Try.func60, Try.ntmps60
  go_upto_region 1 with fail
  go_cut [3] (fun s3 wr => CpeR (w.heap.size + 1 + 1) ((w.alloc (.cells #[.slice p0 e.base.length c0, .slice p1 e.acts.length c1, .slice p2 e.vers.length c2, .slice p3 e.sl.length c3] 28)).alloc (.cells #[.slice none 0 0, .slice none 0 0, .slice none 0 0, .slice none 0 0] 28)) e s3 wr)
  case first =>
    refine wp_region_held_drew (S := fun _ => True) (by kernel_rfl) trivial (fun _ => ?_)
    refine region_inv' 14 15 [some 6, some 7, some 8, some 9, some 10, some 11, some 12, some 13, some 14, some 15, some 16, some 17, some 18, some 3, none] [[], [], [1], [0, 2], [], [], [5], [4, 6, 3], [], [], [9], [8, 10, 7], [3, 7, 11], [], [13, 12, 11, 0, 1, 2, 3, 4, 5, 6, 7, 8, 9, 10, 11, 12, 13]] [6, 7, 8, 9, 10, 11, 12, 13, 14, 15, 16, 17, 18, 3] (cpeG e (w.heap.size + 1 + 1) w.heap.size p0 c0 p1 c1 p2 c2) Ext (((w.alloc (.cells #[.slice p0 e.base.length c0, .slice p1 e.acts.length c1, .slice p2 e.vers.length c2, .slice p3 e.sl.length c3] 28)).alloc (.cells #[.slice none 0 0, .slice none 0 0, .slice none 0 0, .slice none 0 0] 28)).drew) _ (by kernel_rfl) (by kernel_rfl) (by kernel_rfl) (by kernel_rfl) (by kernel_rfl) (by rfl) Ext.refl (fun _ _ _ h h2 => h.trans h2) (cpeG_up _ _ _ _ _ _ _ _ _) ?_ ?_
    · intro i o d ho hi hd X w9 hE hdep K hK
      have hcase : i = 0 ∨ i = 1 ∨ i = 2 ∨ i = 3 ∨ i = 4 ∨ i = 5 ∨ i = 6 ∨ i = 7 ∨ i = 8 ∨ i = 9 ∨ i = 10 ∨ i = 11 ∨ i = 12 ∨ i = 13 := by omega
      rcases hcase with rfl | rfl | rfl | rfl | rfl | rfl | rfl | rfl | rfl | rfl | rfl | rfl | rfl | rfl
      · have ho := opAt_inv ho
        simp only [List.getElem?_cons_zero, List.getElem?_cons_succ, Option.some.injEq] at ho
        subst ho
        clear hdep hd
        simp only [putL, Act.put, List.setIfInBounds_toArray, List.set_cons_zero, List.set_cons_succ] at hK ⊢
        have hsz := hE.size
        simp at hsz
        go_simp
        exact hK _ _ ((Ext.refl _).alloc _) ⟨_, rfl, by omega, heap_alloc_new _ _⟩
      · have ho := opAt_inv ho
        simp only [List.getElem?_cons_zero, List.getElem?_cons_succ, Option.some.injEq] at ho
        subst ho
        clear hdep hd
        simp only [putL, Act.put, List.setIfInBounds_toArray, List.set_cons_zero, List.set_cons_succ] at hK ⊢
        go_simp
        exact hK _ _ (Ext.refl _) rfl
      · have ho := opAt_inv ho
        simp only [List.getElem?_cons_zero, List.getElem?_cons_succ, Option.some.injEq] at ho
        subst ho
        have g1 := hdep 1 (by decide) 7 rfl
        clear hdep hd
        simp only [putL, Act.put, List.setIfInBounds_toArray, List.set_cons_zero, List.set_cons_succ] at hK ⊢
        obtain ⟨z, rfl⟩ := Up.of hE
        rw [show X 7 = _ from g1] at hK ⊢
        go_simp
        exact hK _ _ (Ext.refl _) rfl
      · have ho := opAt_inv ho
        simp only [List.getElem?_cons_zero, List.getElem?_cons_succ, Option.some.injEq] at ho
        subst ho
        have g0 := hdep 0 (by decide) 6 rfl
        have g2 := hdep 2 (by decide) 8 rfl
        clear hdep hd
        simp only [putL, Act.put, List.setIfInBounds_toArray, List.set_cons_zero, List.set_cons_succ] at hK ⊢
        obtain ⟨g, hg, hlo, hrow⟩ := g0
        have hsz := hE.size
        simp at hsz
        rw [if_pos (by rfl)]
        refine wp_of_step (by rfl) ?_
        refine step_clone fEnt Ent.enc Ent.enc_length (lo := w.heap.size + 1 + 1) e.base (by rfl) (.tmp 6) (.tmp 8) (by rfl) (by exact hg) (by exact g2) hrow hlo (H0.out.up (Ext.trans (by repeat (first | (with_reducible exact Ext.refl _) | (with_reducible refine Ext.up ?_ _) | (with_reducible refine Ext.alloc ?_ _) | (with_reducible refine Ext.drew ?_) | (with_reducible refine Ext.setRow ?_ (by first | exact LeS.le | exact LeS.add _ | (simp; done) | (simp; omega)) _) | (with_reducible refine Ext.setCell ?_ (by first | exact LeS.le | exact LeS.add _ | (simp; done) | (simp; omega)) _))) hE)) (oneEs' _) (by omega) (by omega) ?_
        intro v3 z3 o3 b3
        obtain ⟨q3, d3, hv3, _, _⟩ := (o3.sl Ent.enc_length).openc
        exact hK _ _ z3.ext ⟨q3, d3, hv3, o3⟩
      · have ho := opAt_inv ho
        simp only [List.getElem?_cons_zero, List.getElem?_cons_succ, Option.some.injEq] at ho
        subst ho
        clear hdep hd
        simp only [putL, Act.put, List.setIfInBounds_toArray, List.set_cons_zero, List.set_cons_succ] at hK ⊢
        have hsz := hE.size
        simp at hsz
        go_simp
        exact hK _ _ ((Ext.refl _).alloc _) ⟨_, rfl, by omega, heap_alloc_new _ _⟩
      · have ho := opAt_inv ho
        simp only [List.getElem?_cons_zero, List.getElem?_cons_succ, Option.some.injEq] at ho
        subst ho
        clear hdep hd
        simp only [putL, Act.put, List.setIfInBounds_toArray, List.set_cons_zero, List.set_cons_succ] at hK ⊢
        go_simp
        exact hK _ _ (Ext.refl _) rfl
      · have ho := opAt_inv ho
        simp only [List.getElem?_cons_zero, List.getElem?_cons_succ, Option.some.injEq] at ho
        subst ho
        have g5 := hdep 5 (by decide) 11 rfl
        clear hdep hd
        simp only [putL, Act.put, List.setIfInBounds_toArray, List.set_cons_zero, List.set_cons_succ] at hK ⊢
        obtain ⟨z, rfl⟩ := Up.of hE
        rw [show X 11 = _ from g5] at hK ⊢
        go_simp
        exact hK _ _ (Ext.refl _) rfl
      · have ho := opAt_inv ho
        simp only [List.getElem?_cons_zero, List.getElem?_cons_succ, Option.some.injEq] at ho
        subst ho
        have g3 := hdep 3 (by decide) 9 rfl
        have g4 := hdep 4 (by decide) 10 rfl
        have g6 := hdep 6 (by decide) 12 rfl
        clear hdep hd
        simp only [putL, Act.put, List.setIfInBounds_toArray, List.set_cons_zero, List.set_cons_succ] at hK ⊢
        obtain ⟨g, hg, hlo, hrow⟩ := g4
        have hsz := hE.size
        simp at hsz
        rw [if_pos (by rfl)]
        refine wp_of_step (by rfl) ?_
        refine step_clone fActn Actn.enc Actn.enc_length (lo := w.heap.size + 1 + 1) e.acts (by rfl) (.tmp 10) (.tmp 12) (by rfl) (by exact hg) (by exact g6) hrow hlo (H1.out.up (Ext.trans (by repeat (first | (with_reducible exact Ext.refl _) | (with_reducible refine Ext.up ?_ _) | (with_reducible refine Ext.alloc ?_ _) | (with_reducible refine Ext.drew ?_) | (with_reducible refine Ext.setRow ?_ (by first | exact LeS.le | exact LeS.add _ | (simp; done) | (simp; omega)) _) | (with_reducible refine Ext.setCell ?_ (by first | exact LeS.le | exact LeS.add _ | (simp; done) | (simp; omega)) _))) hE)) (oneAs _) (by omega) (by omega) ?_
        intro v3 z3 o3 b3
        obtain ⟨q3, d3, hv3, _, _⟩ := (o3.sl Actn.enc_length).openc
        exact hK _ _ z3.ext ⟨q3, d3, hv3, o3⟩
      · have ho := opAt_inv ho
        simp only [List.getElem?_cons_zero, List.getElem?_cons_succ, Option.some.injEq] at ho
        subst ho
        clear hdep hd
        simp only [putL, Act.put, List.setIfInBounds_toArray, List.set_cons_zero, List.set_cons_succ] at hK ⊢
        have hsz := hE.size
        simp at hsz
        go_simp
        exact hK _ _ ((Ext.refl _).alloc _) ⟨_, rfl, by omega, heap_alloc_new _ _⟩
      · have ho := opAt_inv ho
        simp only [List.getElem?_cons_zero, List.getElem?_cons_succ, Option.some.injEq] at ho
        subst ho
        clear hdep hd
        simp only [putL, Act.put, List.setIfInBounds_toArray, List.set_cons_zero, List.set_cons_succ] at hK ⊢
        go_simp
        exact hK _ _ (Ext.refl _) rfl
      · have ho := opAt_inv ho
        simp only [List.getElem?_cons_zero, List.getElem?_cons_succ, Option.some.injEq] at ho
        subst ho
        have g9 := hdep 9 (by decide) 15 rfl
        clear hdep hd
        simp only [putL, Act.put, List.setIfInBounds_toArray, List.set_cons_zero, List.set_cons_succ] at hK ⊢
        obtain ⟨z, rfl⟩ := Up.of hE
        rw [show X 15 = _ from g9] at hK ⊢
        go_simp
        exact hK _ _ (Ext.refl _) rfl
      · have ho := opAt_inv ho
        simp only [List.getElem?_cons_zero, List.getElem?_cons_succ, Option.some.injEq] at ho
        subst ho
        have g7 := hdep 7 (by decide) 13 rfl
        have g8 := hdep 8 (by decide) 14 rfl
        have g10 := hdep 10 (by decide) 16 rfl
        clear hdep hd
        simp only [putL, Act.put, List.setIfInBounds_toArray, List.set_cons_zero, List.set_cons_succ] at hK ⊢
        obtain ⟨g, hg, hlo, hrow⟩ := g8
        have hsz := hE.size
        simp at hsz
        rw [if_pos (by rfl)]
        refine wp_of_step (by rfl) ?_
        refine step_clone fVer Ver.enc Ver.enc_length (lo := w.heap.size + 1 + 1) e.vers (by rfl) (.tmp 14) (.tmp 16) (by rfl) (by exact hg) (by exact g10) hrow hlo (H2.out.up (Ext.trans (by repeat (first | (with_reducible exact Ext.refl _) | (with_reducible refine Ext.up ?_ _) | (with_reducible refine Ext.alloc ?_ _) | (with_reducible refine Ext.drew ?_) | (with_reducible refine Ext.setRow ?_ (by first | exact LeS.le | exact LeS.add _ | (simp; done) | (simp; omega)) _) | (with_reducible refine Ext.setCell ?_ (by first | exact LeS.le | exact LeS.add _ | (simp; done) | (simp; omega)) _))) hE)) (oneVs _) (by omega) (by omega) ?_
        intro v3 z3 o3 b3
        obtain ⟨q3, d3, hv3, _, _⟩ := (o3.sl Ver.enc_length).openc
        exact hK _ _ z3.ext ⟨q3, d3, hv3, o3⟩
      · have ho := opAt_inv ho
        simp only [List.getElem?_cons_zero, List.getElem?_cons_succ, Option.some.injEq] at ho
        subst ho
        have g3 := hdep 3 (by decide) 9 rfl
        have g7 := hdep 7 (by decide) 13 rfl
        have g11 := hdep 11 (by decide) 17 rfl
        clear hdep hd
        simp only [putL, Act.put, List.setIfInBounds_toArray, List.set_cons_zero, List.set_cons_succ] at hK ⊢
        obtain ⟨q0, d0, e0, o0⟩ := g3
        obtain ⟨q1, d1, e1, o1⟩ := g7
        obtain ⟨q2, d2, e2, o2⟩ := g11
        rw [e0] at o0; rw [e1] at o1; rw [e2] at o2
        rw [show X 9 = _ from e0, show X 13 = _ from e1, show X 17 = _ from e2] at hK ⊢
        go_simp
        exact hK _ _ (Ext.refl _) ⟨_, _, _, _, _, _, rfl, o0, o1, o2⟩
      · have ho := opAt_inv ho
        simp only [List.getElem?_cons_zero, List.getElem?_cons_succ, Option.some.injEq] at ho
        subst ho
        clear hdep hd
        simp only [putL, Act.put, List.setIfInBounds_toArray, List.set_cons_zero, List.set_cons_succ] at hK ⊢
        have hsz := hE.size
        simp at hsz
        go_simp
        exact hK _ _ ((Ext.refl _).alloc _) ⟨_, rfl, by omega, heap_alloc_new _ _⟩
    · intro X w9 hE hF
      have g0 := hF 0 6 (by decide) rfl
      have g1 := hF 1 7 (by decide) rfl
      have g2 := hF 2 8 (by decide) rfl
      have g3 := hF 3 9 (by decide) rfl
      have g4 := hF 4 10 (by decide) rfl
      have g5 := hF 5 11 (by decide) rfl
      have g6 := hF 6 12 (by decide) rfl
      have g7 := hF 7 13 (by decide) rfl
      have g8 := hF 8 14 (by decide) rfl
      have g9 := hF 9 15 (by decide) rfl
      have g10 := hF 10 16 (by decide) rfl
      have g11 := hF 11 17 (by decide) rfl
      have g12 := hF 12 18 (by decide) rfl
      have g13 := hF 13 3 (by decide) rfl
      clear hF
      simp only [putL, Act.put, List.setIfInBounds_toArray, List.set_cons_zero, List.set_cons_succ]
      obtain ⟨G, hG, hlo, hrow⟩ := g13
      obtain ⟨q0, d0, q1, d1, q2, d2, hag, o0, o1, o2⟩ := g12
      obtain ⟨z, rfl⟩ := Up.of hE
      rw [show X 3 = _ from hG, show X 18 = _ from hag]
      have n0 := o0.ne_type hrow (by decide)
      have n1 := o1.ne_type hrow (by decide)
      have n2 := o2.ne_type hrow (by decide)
      have hG0 := cell_of_row _ _ 0 _ _ _ hrow
      have hG1 := cell_of_row _ _ 1 _ _ _ hrow
      have hG2 := cell_of_row _ _ 2 _ _ _ hrow
      have hG3 := cell_of_row _ _ 3 _ _ _ hrow
      have hF0 := frozen_of_row _ _ 0 _ _ hrow
      have hF1 := frozen_of_row _ _ 1 _ _ hrow
      have hF2 := frozen_of_row _ _ 2 _ _ hrow
      have hF3 := frozen_of_row _ _ 3 _ _ hrow
      have hLG : LtS G z.val := ⟨(Array.getElem?_eq_some_iff.1 hrow).1⟩
      refine wpAnyH_ready (rs := [14]) (by kernel_rfl) (by simp) ?_
      refine AllReadyH.cons (opAt rfl) (fun K hK => ?_) AllReadyH.nil
      go_simp
      refine hK.out _ _ trivial (fun _ => wpAnyH_done (by kernel_rfl) ?_ _)
      clear hK K
      go_wp2_with fail
      go_meet
      refine ⟨G, q0, d0, q1, d1, q2, d2, rfl, ?_, (heap_setCell_same _ _ 3 _ _ _ ((heap_setCell_same _ _ 2 _ _ _ ((heap_setCell_same _ _ 1 _ _ _ ((heap_setCell_same _ _ 0 _ _ _ hrow).trans rfl)).trans rfl)).trans rfl)).trans rfl, hlo, ?_, ?_, ?_, n0, n1, n2⟩
      · refine Ext.setCell (Ext.setCell (Ext.setCell (Ext.setCell (show Ext _ z.val from Ext.trans ((Ext.refl _).drew) z.ext) ?_ _) ?_ _) ?_ _) ?_ _ <;> (simp; omega)
      · exact (((o0.setApart 0 _ (.inr n0)).setApart 1 _ (.inr n0)).setApart 2 _ (.inr n0)).setApart 3 _ (.inr n0)
      · exact (((o1.setApart 0 _ (.inr n1)).setApart 1 _ (.inr n1)).setApart 2 _ (.inr n1)).setApart 3 _ (.inr n1)
      · exact (((o2.setApart 0 _ (.inr n2)).setApart 1 _ (.inr n2)).setApart 2 _ (.inr n2)).setApart 3 _ (.inr n2)
  case rest =>
    obtain ⟨G, q0, d0, q1, d1, q2, d2, rfl, F⟩ := hcut
    obtain ⟨E0, rowx, hGw, o0, o1, o2, N0, N1, N2⟩ := F
    obtain ⟨zW, rfl⟩ := Up.of E0
    have E1 : Ext w zW.val := (by repeat (first | (with_reducible exact Ext.refl _) | (with_reducible refine Ext.up ?_ _) | (with_reducible refine Ext.alloc ?_ _) | (with_reducible refine Ext.drew ?_) | (with_reducible refine Ext.setRow ?_ (by first | exact LeS.le | exact LeS.add _ | (simp; done) | (simp; omega)) _) | (with_reducible refine Ext.setCell ?_ (by first | exact LeS.le | exact LeS.add _ | (simp; done) | (simp; omega)) _)))
    have O0 := Lib.hid o0; have O1 := Lib.hid o1; have O2 := Lib.hid o2
    have cB : zW.val.cell? ⟨w.heap.size, 3, none⟩ = some (.slice p3 e.sl.length c3) := by go_simp
    have cR0 : zW.val.cell? ⟨w.heap.size + 1, 0, none⟩ = some (.slice none 0 0) := by go_simp
    have cR1 : zW.val.cell? ⟨w.heap.size + 1, 1, none⟩ = some (.slice none 0 0) := by go_simp
    have cR2 : zW.val.cell? ⟨w.heap.size + 1, 2, none⟩ = some (.slice none 0 0) := by go_simp
    have cR3 : zW.val.cell? ⟨w.heap.size + 1, 3, none⟩ = some (.slice none 0 0) := by go_simp
    have fR0 : zW.val.frozen? ⟨w.heap.size + 1, 0, none⟩ = false := by go_simp
    have fR1 : zW.val.frozen? ⟨w.heap.size + 1, 1, none⟩ = false := by go_simp
    have fR2 : zW.val.frozen? ⟨w.heap.size + 1, 2, none⟩ = false := by go_simp
    have fR3 : zW.val.frozen? ⟨w.heap.size + 1, 3, none⟩ = false := by go_simp
    clear o0 o1 o2
    have hGl : G < zW.val.heap.size := (Array.getElem?_eq_some_iff.1 rowx).1
    have hLG : LtS G zW.val := ⟨hGl⟩
    have hLw : LtS w.heap.size zW.val := ⟨by omega⟩
    have hLw1 : LtS (w.heap.size + 1) zW.val := ⟨by omega⟩
    have hNw : NeS w.heap.size G := ⟨by omega⟩
    have hNw1 : NeS (w.heap.size + 1) G := ⟨by omega⟩
    go_wp2_with fail
    go_loopw [4] (fun s4 wr => ∃ (k : Nat) (u : Value) (ts : List TS), s4 = .int .i64 k ∧ k ≤ e.sl.length ∧ (∃ z : ExtR G zW.val, wr = z.val) ∧ wr.heap[G]? = some (.cells #[.slice q0 e.base.length d0, .slice q1 e.acts.length d1, .slice q2 e.vers.length d2, u] 28 (0, 0)) ∧ OSA zW.val.heap.size wr u ts ∧ ts.map TS.core = e.sl.take k) (fun s4 _ => e.sl.length - (intOf s4).toNat)
    case atStart => exact ⟨0, _, [], rfl, Nat.zero_le _, ⟨⟨zW.val, grownBy_refl _ _⟩, rfl⟩, rowx, OSA.nil _ _, rfl⟩
    case round =>
      obtain ⟨k, u, ts, rfl, hk, ⟨z, rfl⟩, hrow, hob, hmap⟩ := hrel
      have hbl : ts.length = k := by rw [← List.length_map (f := TS.core), hmap, List.length_take]; omega
      have hbl2 : ts.length ≤ 1000 := by omega
      have Hbl := Lib.hid hbl; clear hbl
      obtain ⟨qx, dx, rfl, _, _⟩ := (hob.row.sl TS.enc_length).openc
      have HR := Lib.hid hrow; have HO := Lib.hid hob; have Hm := Lib.hid hmap
      have hEz : Ext w z.val := E1.upR (by omega) z
      have g3 : z.val.cell? ⟨G, 3, none⟩ = some (.slice qx ts.length dx) := cell_of_row _ _ 3 _ _ _ hrow
      have dB : z.val.cell? ⟨w.heap.size, 3, none⟩ = some (.slice p3 e.sl.length c3) := (z.cell _ _).trans cB
      have hLz : LtS G z.val := inferInstance
      have hLzw : LtS w.heap.size z.val := inferInstance
      have hzs := z.grown.size
      clear hrow hob hmap
      by_cases hlt : k < e.sl.length
      · obtain ⟨y, hyk⟩ := getElem?_some_of_lt hlt
        obtain ⟨b, off, pf, cf, pr, cr, pw, cw, rfl, hb', ⟨e0, e1, e2, e3, e4, e5⟩, hx0, hx1, hx2⟩ := HC.out k y hyk
        have hNb : NeS b G := ⟨by have := hb'.lt; omega⟩
        have hLb : LtS b zW.val := ⟨by have := hb'.lt; omega⟩
        have hLbz : LtS b z.val := inferInstance
        have a0 : z.val.cell? ⟨b, off + k * 6, none⟩ = some (.int .i64 y.st) := (z.cell _ _).trans (E1.some e0)
        have a1 : z.val.cell? ⟨b, off + k * 6 + 1, none⟩ = some (.int .i64 y.tr) := (z.cell _ _).trans (E1.some e1)
        have a2 : z.val.cell? ⟨b, off + k * 6 + 2, none⟩ = some (.slice pf y.f.length cf) := (z.cell _ _).trans (E1.some e2)
        have a3 : z.val.cell? ⟨b, off + k * 6 + 3, none⟩ = some (.bool y.e.d) := (z.cell _ _).trans (E1.some e3)
        have a4 : z.val.cell? ⟨b, off + k * 6 + 4, none⟩ = some (.slice pr y.e.r.length cr) := (z.cell _ _).trans (E1.some e4)
        have a5 : z.val.cell? ⟨b, off + k * 6 + 5, none⟩ = some (.slice pw y.e.w.length cw) := (z.cell _ _).trans (E1.some e5)
        clear e0 e1 e2 e3 e4 e5
        have k0 : (0 : Int) ≤ (k : Int) := by omega
        have k1 : (k : Int) < e.sl.length := by omega
        have HX0 := Lib.hid (hx0.up hEz); have HX1 := Lib.hid (hx1.up hEz); have HX2 := Lib.hid (hx2.up hEz)
        obtain ⟨l0, l1, l2⟩ := Hs.out y (List.mem_of_getElem? hyk)
        clear hx0 hx1 hx2
        go_upto_region 6 with fail
        refine wp_region_held_drew (S := fun _ => True) (by kernel_rfl) trivial (fun _ => ?_)
        refine region_inv' 15 18 [some 31, some 32, some 33, some 34, some 35, some 36, some 37, some 38, some 39, some 40, some 41, some 42, some 43, some 44, some 45, some 46, some 47, none] [[], [0], [], [2], [], [4], [], [], [7], [6, 8], [], [10], [11, 9], [3, 5, 9, 12], [13], [1, 14, 12], [0, 1, 2, 3, 4, 5, 6, 7, 8, 9, 10, 11, 12, 13, 14, 15], [16, 15, 15, 0, 1, 2, 3, 4, 5, 6, 7, 8, 9, 10, 11, 12, 13, 14, 15]] [31, 32, 33, 34, 35, 36, 37, 38, 39, 40, 41, 42, 43, 44, 45] (cpG y (z.val.heap.size + 1) G z.val.heap.size ts.length qx dx pf cf pr cr pw cw) Ext ((z.val.alloc (.cells #[.int .i64 y.st, .int .i64 y.tr, .slice pf y.f.length cf, .bool y.e.d, .slice pr y.e.r.length cr, .slice pw y.e.w.length cw] 39)).drew) _ (by kernel_rfl) (by kernel_rfl) (by kernel_rfl) (by kernel_rfl) (by kernel_rfl) (by rfl) Ext.refl (fun _ _ _ h h2 => h.trans h2) (cpG_up _ _ _ _ _ _ _ _ _ _ _ _ _) ?_ ?_
        · intro i o d ho hi hd X w9 hE hdep K hK
          have hcase : i = 0 ∨ i = 1 ∨ i = 2 ∨ i = 3 ∨ i = 4 ∨ i = 5 ∨ i = 6 ∨ i = 7 ∨ i = 8 ∨ i = 9 ∨ i = 10 ∨ i = 11 ∨ i = 12 ∨ i = 13 ∨ i = 14 := by omega
          rcases hcase with rfl | rfl | rfl | rfl | rfl | rfl | rfl | rfl | rfl | rfl | rfl | rfl | rfl | rfl | rfl
          · have ho := opAt_inv ho
            simp only [List.getElem?_cons_zero, List.getElem?_cons_succ, Option.some.injEq] at ho
            subst ho
            clear hdep hd
            simp only [putL, Act.put, List.setIfInBounds_toArray, List.set_cons_zero, List.set_cons_succ] at hK ⊢
            go_simp
            exact hK _ _ (Ext.refl _) rfl
          · have ho := opAt_inv ho
            simp only [List.getElem?_cons_zero, List.getElem?_cons_succ, Option.some.injEq] at ho
            subst ho
            have g0 := hdep 0 (by decide) 31 rfl
            clear hdep hd
            simp only [putL, Act.put, List.setIfInBounds_toArray, List.set_cons_zero, List.set_cons_succ] at hK ⊢
            obtain ⟨z9, rfl⟩ := Up.of hE
            rw [show X 31 = _ from g0] at hK ⊢
            go_simp
            exact hK _ _ (Ext.refl _) rfl
          · have ho := opAt_inv ho
            simp only [List.getElem?_cons_zero, List.getElem?_cons_succ, Option.some.injEq] at ho
            subst ho
            clear hdep hd
            simp only [putL, Act.put, List.setIfInBounds_toArray, List.set_cons_zero, List.set_cons_succ] at hK ⊢
            go_simp
            exact hK _ _ (Ext.refl _) rfl
          · have ho := opAt_inv ho
            simp only [List.getElem?_cons_zero, List.getElem?_cons_succ, Option.some.injEq] at ho
            subst ho
            have g2 := hdep 2 (by decide) 33 rfl
            clear hdep hd
            simp only [putL, Act.put, List.setIfInBounds_toArray, List.set_cons_zero, List.set_cons_succ] at hK ⊢
            obtain ⟨z9, rfl⟩ := Up.of hE
            rw [show X 33 = _ from g2] at hK ⊢
            go_simp
            exact hK _ _ (Ext.refl _) rfl
          · have ho := opAt_inv ho
            simp only [List.getElem?_cons_zero, List.getElem?_cons_succ, Option.some.injEq] at ho
            subst ho
            clear hdep hd
            simp only [putL, Act.put, List.setIfInBounds_toArray, List.set_cons_zero, List.set_cons_succ] at hK ⊢
            go_simp
            exact hK _ _ (Ext.refl _) rfl
          · have ho := opAt_inv ho
            simp only [List.getElem?_cons_zero, List.getElem?_cons_succ, Option.some.injEq] at ho
            subst ho
            have g4 := hdep 4 (by decide) 35 rfl
            clear hdep hd
            simp only [putL, Act.put, List.setIfInBounds_toArray, List.set_cons_zero, List.set_cons_succ] at hK ⊢
            obtain ⟨z9, rfl⟩ := Up.of hE
            rw [show X 35 = _ from g4] at hK ⊢
            go_simp
            exact hK _ _ (Ext.refl _) rfl
          · have ho := opAt_inv ho
            simp only [List.getElem?_cons_zero, List.getElem?_cons_succ, Option.some.injEq] at ho
            subst ho
            clear hdep hd
            simp only [putL, Act.put, List.setIfInBounds_toArray, List.set_cons_zero, List.set_cons_succ] at hK ⊢
            have hsz := hE.size
            simp at hsz
            go_simp
            exact hK _ _ ((Ext.refl _).alloc _) ⟨_, rfl, by omega, heap_alloc_new _ _⟩
          · have ho := opAt_inv ho
            simp only [List.getElem?_cons_zero, List.getElem?_cons_succ, Option.some.injEq] at ho
            subst ho
            clear hdep hd
            simp only [putL, Act.put, List.setIfInBounds_toArray, List.set_cons_zero, List.set_cons_succ] at hK ⊢
            go_simp
            exact hK _ _ (Ext.refl _) rfl
          · have ho := opAt_inv ho
            simp only [List.getElem?_cons_zero, List.getElem?_cons_succ, Option.some.injEq] at ho
            subst ho
            have g7 := hdep 7 (by decide) 38 rfl
            clear hdep hd
            simp only [putL, Act.put, List.setIfInBounds_toArray, List.set_cons_zero, List.set_cons_succ] at hK ⊢
            obtain ⟨z9, rfl⟩ := Up.of hE
            rw [show X 38 = _ from g7] at hK ⊢
            go_simp
            exact hK _ _ (Ext.refl _) rfl
          · have ho := opAt_inv ho
            simp only [List.getElem?_cons_zero, List.getElem?_cons_succ, Option.some.injEq] at ho
            subst ho
            have g6 := hdep 6 (by decide) 37 rfl
            have g8 := hdep 8 (by decide) 39 rfl
            clear hdep hd
            simp only [putL, Act.put, List.setIfInBounds_toArray, List.set_cons_zero, List.set_cons_succ] at hK ⊢
            obtain ⟨g, hg, hlo, hrow⟩ := g6
            have hsz := hE.size
            simp at hsz
            rw [if_pos (by rfl)]
            refine wp_of_step (by rfl) ?_
            refine step_clone fI encI encI_length (lo := z.val.heap.size + 1) y.f (by rfl) (.tmp 37) (.tmp 39) (by rfl) (by exact hg) (by exact g8) hrow hlo (HX0.out.up (Ext.trans (by repeat (first | (with_reducible exact Ext.refl _) | (with_reducible refine Ext.up ?_ _) | (with_reducible refine Ext.alloc ?_ _) | (with_reducible refine Ext.drew ?_) | (with_reducible refine Ext.setRow ?_ (by first | exact LeS.le | exact LeS.add _ | (simp; done) | (simp; omega)) _) | (with_reducible refine Ext.setCell ?_ (by first | exact LeS.le | exact LeS.add _ | (simp; done) | (simp; omega)) _))) hE)) (oneIt _) (by omega) (by omega) ?_
            intro v3 z3 o3 b3
            obtain ⟨q3, d3, hv3, _, _⟩ := (o3.sl encI_length).openc
            exact hK _ _ z3.ext ⟨q3, d3, hv3, o3⟩
          · have ho := opAt_inv ho
            simp only [List.getElem?_cons_zero, List.getElem?_cons_succ, Option.some.injEq] at ho
            subst ho
            clear hdep hd
            simp only [putL, Act.put, List.setIfInBounds_toArray, List.set_cons_zero, List.set_cons_succ] at hK ⊢
            go_simp
            exact hK _ _ (Ext.refl _) rfl
          · have ho := opAt_inv ho
            simp only [List.getElem?_cons_zero, List.getElem?_cons_succ, Option.some.injEq] at ho
            subst ho
            have g10 := hdep 10 (by decide) 41 rfl
            clear hdep hd
            simp only [putL, Act.put, List.setIfInBounds_toArray, List.set_cons_zero, List.set_cons_succ] at hK ⊢
            obtain ⟨z9, rfl⟩ := Up.of hE
            rw [show X 41 = _ from g10] at hK ⊢
            go_simp
            exact hK _ _ (Ext.refl _) rfl
          · have ho := opAt_inv ho
            simp only [List.getElem?_cons_zero, List.getElem?_cons_succ, Option.some.injEq] at ho
            subst ho
            have g9 := hdep 9 (by decide) 40 rfl
            have g11 := hdep 11 (by decide) 42 rfl
            clear hdep hd
            simp only [putL, Act.put, List.setIfInBounds_toArray, List.set_cons_zero, List.set_cons_succ] at hK ⊢
            have hsz := hE.size
            simp at hsz
            rw [show X 42 = _ from g11] at hK ⊢
            go_simp
            go_at_call 81
            refine (sEffCopy_any y.e _ _ _ (HX1.out.up (Ext.trans (by repeat (first | (with_reducible exact Ext.refl _) | (with_reducible refine Ext.up ?_ _) | (with_reducible refine Ext.alloc ?_ _) | (with_reducible refine Ext.drew ?_) | (with_reducible refine Ext.setRow ?_ (by first | exact LeS.le | exact LeS.add _ | (simp; done) | (simp; omega)) _) | (with_reducible refine Ext.setCell ?_ (by first | exact LeS.le | exact LeS.add _ | (simp; done) | (simp; omega)) _))) hE)) (HX2.out.up (Ext.trans (by repeat (first | (with_reducible exact Ext.refl _) | (with_reducible refine Ext.up ?_ _) | (with_reducible refine Ext.alloc ?_ _) | (with_reducible refine Ext.drew ?_) | (with_reducible refine Ext.setRow ?_ (by first | exact LeS.le | exact LeS.add _ | (simp; done) | (simp; omega)) _) | (with_reducible refine Ext.setCell ?_ (by first | exact LeS.le | exact LeS.add _ | (simp; done) | (simp; omega)) _))) hE)) (by omega) (by omega)).mono ?_
            rintro e' w' ⟨vr', vw', rfl, ⟨z3, rfl⟩, o1, o2, ap⟩
            obtain ⟨q1, d1, rfl, _, _⟩ := (o1.sl Ent.enc_length).openc
            obtain ⟨q2, d2, rfl, _, _⟩ := (o2.sl Ent.enc_length).openc
            try go_wp2_with fail
            exact hK _ _ z3.ext ⟨q1, d1, q2, d2, rfl, o1.lo (by omega), o2.lo (by omega), ap⟩
          · have ho := opAt_inv ho
            simp only [List.getElem?_cons_zero, List.getElem?_cons_succ, Option.some.injEq] at ho
            subst ho
            have g3 := hdep 3 (by decide) 34 rfl
            have g5 := hdep 5 (by decide) 36 rfl
            have g9 := hdep 9 (by decide) 40 rfl
            have g12 := hdep 12 (by decide) 43 rfl
            clear hdep hd
            simp only [putL, Act.put, List.setIfInBounds_toArray, List.set_cons_zero, List.set_cons_succ] at hK ⊢
            obtain ⟨qf, df, e0, o0⟩ := g9
            obtain ⟨qr, dr, qw, dw, e1, o1, o2, ap⟩ := g12
            rw [e0] at o0
            have nt := NewT.mk (y := y) o0 o1 o2 ap (o0.apart_type o1 (by decide)) (o0.apart_type o2 (by decide))
            rw [show X 40 = _ from e0, show X 43 = _ from e1, show X 34 = _ from g3, show X 36 = _ from g5] at hK ⊢
            go_simp
            exact hK _ _ (Ext.refl _) ⟨qf, df, qr, dr, qw, dw, rfl, nt⟩
          · have ho := opAt_inv ho
            simp only [List.getElem?_cons_zero, List.getElem?_cons_succ, Option.some.injEq] at ho
            subst ho
            have g13 := hdep 13 (by decide) 44 rfl
            clear hdep hd
            simp only [putL, Act.put, List.setIfInBounds_toArray, List.set_cons_zero, List.set_cons_succ] at hK ⊢
            obtain ⟨qf, df, qr, dr, qw, dw, e0, nt⟩ := g13
            have hsz := hE.size
            simp at hsz
            rw [show X 44 = _ from e0] at hK ⊢
            go_simp
            exact hK _ _ ((Ext.refl _).alloc _) ⟨_, qf, df, qr, dr, qw, dw, rfl, by omega, heap_alloc_new _ _, nt.up ((Ext.refl _).alloc _)⟩
        · intro X w9 hE hF
          have g0 := hF 0 31 (by decide) rfl
          have g1 := hF 1 32 (by decide) rfl
          have g2 := hF 2 33 (by decide) rfl
          have g3 := hF 3 34 (by decide) rfl
          have g4 := hF 4 35 (by decide) rfl
          have g5 := hF 5 36 (by decide) rfl
          have g6 := hF 6 37 (by decide) rfl
          have g7 := hF 7 38 (by decide) rfl
          have g8 := hF 8 39 (by decide) rfl
          have g9 := hF 9 40 (by decide) rfl
          have g10 := hF 10 41 (by decide) rfl
          have g11 := hF 11 42 (by decide) rfl
          have g12 := hF 12 43 (by decide) rfl
          have g13 := hF 13 44 (by decide) rfl
          have g14 := hF 14 45 (by decide) rfl
          clear hF
          simp only [putL, Act.put, List.setIfInBounds_toArray, List.set_cons_zero, List.set_cons_succ]
          obtain ⟨g, qf, df, qr, dr, qw, dw, hg, hlo, hrow, nt⟩ := g14
          have hsz := hE.size
          simp at hsz
          have EzW : Ext z.val w9 := Ext.trans (by repeat (first | (with_reducible exact Ext.refl _) | (with_reducible refine Ext.up ?_ _) | (with_reducible refine Ext.alloc ?_ _) | (with_reducible refine Ext.drew ?_) | (with_reducible refine Ext.setRow ?_ (by first | exact LeS.le | exact LeS.add _ | (simp; done) | (simp; omega)) _) | (with_reducible refine Ext.setCell ?_ (by first | exact LeS.le | exact LeS.add _ | (simp; done) | (simp; omega)) _))) hE
          have hRG : w9.heap[G]? = some (.cells #[.slice q0 e.base.length d0, .slice q1 e.acts.length d1, .slice q2 e.vers.length d2, .slice qx ts.length dx] 28 (0, 0)) := row_up EzW HR.out
          have hGB : zW.val.grownBy w9 (some G) := grownBy_trans z.grown (grownBy_ext EzW)
          clear g2 g3 g4 g5 g6 g7 g8 g9 g10 g11 g12 g13 hE
          refine wpAnyH_ready (rs := [15]) (by kernel_rfl) (by simp) ?_
          refine AllReadyH.cons (opAt rfl) (fun K hK => ?_) AllReadyH.nil
          refine step_pushG fSlt (by rfl) (.tmp 32) (.tmp 45) (by rfl) TS.enc TS.enc_length w (lo := zW.val.heap.size) [⟨y.st, y.tr, .slice qf y.f.length df, y.e.d, .slice qr y.e.r.length dr, .slice qw y.e.w.length dw, y.f, y.e.r, y.e.w⟩] ts (by exact g1) (by exact hg) hrow (HO.out.row.up EzW) (hEz.trans EzW) (by omega) (by omega) rfl (by simp) rfl (by simp [TS.enc, Value.oneCell']) (by simp; omega) (by simp; omega) ?_
          intro v7 z7 o7 g7 b7
          obtain ⟨p7, c7, hv7, _, _⟩ := (o7.sl TS.enc_length).openc
          rw [List.length_append] at hv7
          rw [show ([(⟨y.st, y.tr, .slice qf y.f.length df, y.e.d, .slice qr y.e.r.length dr, .slice qw y.e.w.length dw, y.f, y.e.r, y.e.w⟩ : TS)]).length = 1 from rfl] at hv7
          subst hv7
          obtain ⟨R7, G7⟩ := keepRow1 hGB (HO.out.row.up EzW) hGl (Nat.le_refl _) hRG g7
          have OB7 := Lib.hid (OSA.snocG (x := ⟨y.st, y.tr, .slice qf y.f.length df, y.e.d, .slice qr y.e.r.length dr, .slice qw y.e.w.length dw, y.f, y.e.r, y.e.w⟩) (HO.out.up EzW) g7 (Nat.le_refl _) b7 o7 ⟨nt.o0.lo (by omega), nt.o1.lo (by omega), nt.o2.lo (by omega)⟩ (by
              intro u hu
              simp only [TS.parts, List.mem_cons, List.not_mem_nil, or_false] at hu
              rcases hu with rfl | rfl | rfl
              · exact (Apart.of_lt HO.out.row nt.o0 (by omega)).symm
              · exact (Apart.of_lt HO.out.row nt.o1 (by omega)).symm
              · exact (Apart.of_lt HO.out.row nt.o2 (by omega)).symm) (by simp only [TS.parts, List.pairwise_cons, List.mem_cons, List.not_mem_nil, or_false, forall_eq_or_imp, forall_eq, false_implies, implies_true, and_true, List.Pairwise.nil]; exact ⟨⟨nt.a1, nt.a2⟩, nt.ap⟩) (by
              intro y' hy' u hu u' hu'
              obtain ⟨i0, i1, i2⟩ := HO.out.deep y' hy'
              simp only [TS.parts, List.mem_cons, List.not_mem_nil, or_false] at hu hu'
              rcases hu with rfl | rfl | rfl <;> rcases hu' with rfl | rfl | rfl <;> first | exact Apart.of_lt i0 nt.o0 (by omega) | exact Apart.of_lt i0 nt.o1 (by omega) | exact Apart.of_lt i0 nt.o2 (by omega) | exact Apart.of_lt i1 nt.o0 (by omega) | exact Apart.of_lt i1 nt.o1 (by omega) | exact Apart.of_lt i1 nt.o2 (by omega) | exact Apart.of_lt i2 nt.o0 (by omega) | exact Apart.of_lt i2 nt.o1 (by omega) | exact Apart.of_lt i2 nt.o2 (by omega)))
          have e73 := cell_of_row _ _ 3 _ _ _ R7
          have f73 := frozen_of_row _ _ 3 _ _ R7
          have HR7 := Lib.hid R7; have HG7 := Lib.hid G7
          clear o7 g7 b7 R7 G7
          simp only [Act.put, List.setIfInBounds_toArray, List.set_cons_zero, List.set_cons_succ]
          refine hK.out _ _ trivial (fun _ => ?_)
          clear hK K
          refine wpAnyH_ready (rs := [16]) (by kernel_rfl) (by simp) ?_
          refine AllReadyH.cons (opAt rfl) (fun K hK => ?_) AllReadyH.nil
          go_simp
          refine hK.out _ _ trivial (fun _ => ?_)
          clear hK K
          refine wpAnyH_ready (rs := [17]) (by kernel_rfl) (by simp) ?_
          refine AllReadyH.cons (opAt rfl) (fun K hK => ?_) AllReadyH.nil
          go_simp
          refine hK.out _ _ trivial (fun _ => wpAnyH_done (by kernel_rfl) ?_ _)
          clear hK K
          go_wp2_with fail
          go_roundw
          case rel =>
            refine ⟨k + 1, _, ts ++ [⟨y.st, y.tr, .slice qf y.f.length df, y.e.d, .slice qr y.e.r.length dr, .slice qw y.e.w.length dw, y.f, y.e.r, y.e.w⟩], by go_num, by omega, ExtR.of (grownBy_trans HG7.out (grownBy_set _ _ _)), (heap_setCell_same _ _ 3 _ _ _ HR7.out).trans rfl, OB7.out.setOld _ _ hGl, ?_⟩
            rw [List.map_append, Hm.out, List.take_add_one, hyk]; rfl
          case measure => simp [intOf]; omega
      · obtain rfl : k = e.sl.length := by omega
        rw [List.take_length] at Hm
        have dR0 : z.val.cell? ⟨w.heap.size + 1, 0, none⟩ = some (.slice none 0 0) := (z.cell _ _).trans cR0
        have dR1 : z.val.cell? ⟨w.heap.size + 1, 1, none⟩ = some (.slice none 0 0) := (z.cell _ _).trans cR1
        have dR2 : z.val.cell? ⟨w.heap.size + 1, 2, none⟩ = some (.slice none 0 0) := (z.cell _ _).trans cR2
        have dR3 : z.val.cell? ⟨w.heap.size + 1, 3, none⟩ = some (.slice none 0 0) := (z.cell _ _).trans cR3
        have eR0 : z.val.frozen? ⟨w.heap.size + 1, 0, none⟩ = false := (z.frozen _ _).trans fR0
        have eR1 : z.val.frozen? ⟨w.heap.size + 1, 1, none⟩ = false := (z.frozen _ _).trans fR1
        have eR2 : z.val.frozen? ⟨w.heap.size + 1, 2, none⟩ = false := (z.frozen _ _).trans fR2
        have eR3 : z.val.frozen? ⟨w.heap.size + 1, 3, none⟩ = false := (z.frozen _ _).trans fR3
        have hLzw1 : LtS (w.heap.size + 1) z.val := inferInstance
        have K0 := Lib.hid (O0.out.kept z.grown (.inr N0))
        have K1 := Lib.hid (O1.out.kept z.grown (.inr N1))
        have K2 := Lib.hid (O2.out.kept z.grown (.inr N2))
        have hzw : w.heap.size + 1 < z.val.heap.size := hLzw1.lt
        have hLG0 : z.val.heap[G]? = some (.cells #[.slice q0 e.base.length d0, .slice q1 e.acts.length d1, .slice q2 e.vers.length d2, .slice qx ts.length dx] 28 (0, 0)) := HR.out
        clear HR g3 hLz hLzw hLzw1 N0 N1 N2
        generalize z.val = W9 at *
        clear z
        obtain ⟨z9, rfl⟩ := Up.of hEz
        have hLz9 : LtS (w.heap.size + 1) z9.val := ⟨hzw⟩
        have hLz7 : LtS w.heap.size z9.val := ⟨by omega⟩
        have hLz8 : LtS G z9.val := ⟨(Array.getElem?_eq_some_iff.1 hLG0).1⟩
        have g0 : z9.val.cell? ⟨G, 0, none⟩ = some (.slice q0 e.base.length d0) := cell_of_row _ _ 0 _ _ _ hLG0
        have g1 : z9.val.cell? ⟨G, 1, none⟩ = some (.slice q1 e.acts.length d1) := cell_of_row _ _ 1 _ _ _ hLG0
        have g2 : z9.val.cell? ⟨G, 2, none⟩ = some (.slice q2 e.vers.length d2) := cell_of_row _ _ 2 _ _ _ hLG0
        have g3 : z9.val.cell? ⟨G, 3, none⟩ = some (.slice qx ts.length dx) := cell_of_row _ _ 3 _ _ _ hLG0
        have HL0 := Lib.hid hLG0; clear hLG0
        go_wp2_with fail
        refine bodyPost_ret (v := .agg #[.slice q0 e.base.length d0, .slice q1 e.acts.length d1, .slice q2 e.vers.length d2, .slice qx ts.length dx]) (by simp [results, Try.results60, go_sem, dR0, dR1, dR2, dR3]) rfl ?_
        refine ⟨_, _, _, _, ts, rfl, .of ?_, Hm.out, ?_⟩
        · repeat (first | (with_reducible exact hEz) | (exact z9.ext) | (with_reducible refine Ext.setCell ?_ (by first | exact Nat.le_succ _ | omega) _))
        · have M0 : ∀ (v : Value), v.ownBlock ≠ some (w.heap.size + 1) → True := fun _ _ => trivial
          have OO := HO.out
          refine ⟨⟨?_, ?_, ?_, ?_⟩, ?_, ?_, ?_, ?_⟩
          · exact ((((K0.out.setOld _ _ (by show w.heap.size + 1 < _; omega)).setOld _ _ (by show w.heap.size + 1 < _; omega)).setOld _ _ (by show w.heap.size + 1 < _; omega)).setOld _ _ (by show w.heap.size + 1 < _; omega)).lo (by omega)
          · exact ((((K1.out.setOld _ _ (by show w.heap.size + 1 < _; omega)).setOld _ _ (by show w.heap.size + 1 < _; omega)).setOld _ _ (by show w.heap.size + 1 < _; omega)).setOld _ _ (by show w.heap.size + 1 < _; omega)).lo (by omega)
          · exact ((((K2.out.setOld _ _ (by show w.heap.size + 1 < _; omega)).setOld _ _ (by show w.heap.size + 1 < _; omega)).setOld _ _ (by show w.heap.size + 1 < _; omega)).setOld _ _ (by show w.heap.size + 1 < _; omega)).lo (by omega)
          · exact ((((OO.setOld _ _ (by show w.heap.size + 1 < _; omega)).setOld _ _ (by show w.heap.size + 1 < _; omega)).setOld _ _ (by show w.heap.size + 1 < _; omega)).setOld _ _ (by show w.heap.size + 1 < _; omega)).lo (by omega)
          · exact Apart.of_lt O0.out OO.row (Nat.le_refl _)
          · exact Apart.of_lt O1.out OO.row (Nat.le_refl _)
          · exact Apart.of_lt O2.out OO.row (Nat.le_refl _)
          · intro x hx u hu
            obtain ⟨i0, i1, i2⟩ := OO.deep x hx
            simp only [TS.parts, List.mem_cons, List.not_mem_nil, or_false] at hu
            rcases hu with rfl | rfl | rfl
            · exact ⟨(Apart.of_lt O0.out i0 (Nat.le_refl _)).symm, (Apart.of_lt O1.out i0 (Nat.le_refl _)).symm, (Apart.of_lt O2.out i0 (Nat.le_refl _)).symm⟩
            · exact ⟨(Apart.of_lt O0.out i1 (Nat.le_refl _)).symm, (Apart.of_lt O1.out i1 (Nat.le_refl _)).symm, (Apart.of_lt O2.out i1 (Nat.le_refl _)).symm⟩
            · exact ⟨(Apart.of_lt O0.out i2 (Nat.le_refl _)).symm, (Apart.of_lt O1.out i2 (Nat.le_refl _)).symm, (Apart.of_lt O2.out i2 (Nat.le_refl _)).symm⟩
end Go.Proofs.Ytnknamddonjnjaa
