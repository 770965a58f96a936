/- Walks: drawn lists of actions. Plain ground: for the walk of what an action does. Plain ground: the operations of a region, one by one. -/
import Derived.Test.YteiemjebdhmnaaaGreatGLxTop09
import Derived.Test.YteiemjebdhmnaaaGreatGLxTop05
import Derived.Test.YteiemjebdhmnaaaGreatGLxTop03
import Derived.Test.YteiemjebdhmnaaaGreatGLxTop07
import Derived.Deep.RegionLaw
set_option linter.unusedSimpArgs false
set_option linter.unusedVariables false
namespace Go.Proofs.YteiemjebdhmnaaaGreat
open Go Go.RowKit Go.Proofs

theorem Own.ne_rb {α : Type} {enc : α → List Value} {e sz lo rb : Nat} {w : World} {v : Value} {l : List α} (h : Own enc e sz lo w v l) (hlt : rb < lo) : v.ownBlock = none ∨ v.ownBlock ≠ some rb := by
  cases hv : v.ownBlock with
  | none => exact .inl rfl
  | some k =>
    right; intro e
    have h1 := (World.ownsRow.lt h k hv).1
    cases e; omega
theorem Own.upR {α : Type} {enc : α → List Value} {e sz lo rb : Nat} {W : World} {v : Value} {l : List α} (h : Own enc e sz lo W v l) (hlt : rb < lo) (z : ExtR rb W) : Own enc e sz lo z.val v l := Own.kept h z.grown (h.ne_rb hlt)
theorem rd_push {α : Type} {enc : α → List Value} {e sz lo rb : Nat} {lim : Int} {w0 w W1 w7 : World} {o : Obj} {v : Value} {l : List α} (hR : Rd w0 W1 rb lim) (hG : w.grownBy W1 (some rb)) (hown : Own enc e sz lo W1 v l) (hlo : rb < lo) (hw : w.heap.size ≤ lo) (hE : Ext w0 w7) (g7 : (W1.alloc o).grownBy w7 v.ownBlock) :
    Rd w0 w7 rb lim ∧ (∃ z : ExtR rb w, w7 = z.val) := by
  have h1 : W1.heap.size ≤ (W1.alloc o).heap.size := by simp
  refine ⟨(hR.alloc o).grown hE (g7.block rb (Nat.lt_of_lt_of_le hR.lt h1) (fun e => ?_)), ExtR.of ?_⟩
  · rcases hown.ne_rb hlo with h | h
    · rw [h] at e; cases e
    · exact h e.symm
  · have hG2 := GB.alloc hG o
    refine ⟨g7.os.trans hG2.os, g7.tape.trans hG2.tape, g7.output.trans hG2.output, Nat.le_trans hG2.size g7.size, fun n hn hne => ?_⟩
    refine (g7.block n (Nat.lt_of_lt_of_le hn hG2.size) (fun e => ?_)).trans (hG2.block n hn hne)
    have := (World.ownsRow.lt hown n e.symm).1
    omega
theorem oneAs (l : List Actn) : ∀ u ∈ l.flatMap Actn.enc, u.oneCell' = true := by
  intro u hu
  obtain ⟨x, _, h⟩ := List.mem_flatMap.1 hu
  exact oneA x u h
set_option maxRecDepth 100000 in
set_option maxHeartbeats 2000000 in
theorem actions_any (w0 w : World) (rb : Nat) (lim n : Int) (h : Rd w0 w rb lim) (hl : lim ≤ 100000) (hn0 : 0 ≤ n) (hn1 : n ≤ 1000000) :
    Calls Tryz.prog 63 #[.pointer (some ⟨rb, 0, none⟩), .int .i64 n] w fun e w' => ∃ v' l, e = .returned v' ∧ l.length ≤ 11 ∧ (n = 0 → ∀ x ∈ l, x.ok = true) ∧ (n = 0 → l.length ≤ 6) ∧ (∃ z : ExtR rb w, w' = z.val) ∧ Rd w0 w' rb (lim + 200) ∧ Own Actn.enc 106 4 w.heap.size w' v' l := by
  have H := Lib.hid h
  have hL : LtS rb w := ⟨h.lt⟩
  have hLe : w0.heap.size ≤ w.heap.size := h.ext.size
  have hlt := h.lt
  clear h
  go_enter Tryz.func63, Tryz.ntmps63
  go_wp2_with fail
  refine (pick_any w0 _ rb lim 7 (H.out.up (by repeat (first | (with_reducible exact Ext.refl _) | (with_reducible refine Ext.up ?_ _) | (with_reducible refine Ext.alloc ?_ _) | (with_reducible refine Ext.drew ?_) | (with_reducible refine Ext.setRow ?_ (by first | exact LeS.le | exact LeS.add _ | (simp; done) | (simp; omega)) _) | (with_reducible refine Ext.setCell ?_ (by first | exact LeS.le | exact LeS.add _ | (simp; done) | (simp; omega)) _)))) (by omega) (by omega) (by omega)).mono ?_; rintro e w' ⟨j0, rfl, j00, j01, j02, ⟨z0, rfl⟩, hr⟩
  have H0 := Lib.hid hr
  have hj := j01 (by omega)
  clear hr j01 j02
  go_wp2_with fail
  go_loopw [5, 6] (fun s5 s6 wr => ∃ (j : Int) (out : List Actn), s6 = .int .i64 j ∧ 0 ≤ j ∧ j ≤ 6 ∧ out.length + j ≤ 6 ∧ (∀ x ∈ out, x.ok = true) ∧ (∃ z : ExtR rb w, wr = z.val) ∧ Rd w0 wr rb (lim + 100 - 16 * j) ∧ Own Actn.enc 106 4 w.heap.size wr s5 out) (fun _ s6 _ => (intOf s6).toNat)
  case atStart =>
    refine ⟨j0, [], rfl, j00, by omega, by simp; omega, by simp, ExtR.of (by repeat (first | (with_reducible exact grownBy_refl _ _) | (with_reducible refine GB.setNew ?_ (by first | exact LeS.le | exact LeS.add _ | (simp; done) | (simp; omega)) _ _) | (with_reducible refine GB.alloc ?_ _) | (with_reducible refine GB.drew ?_) | (with_reducible refine GB.upR ?_ _) | (with_reducible refine GB.up ?_ _))), H0.out.mono (by omega), ?_⟩
    have o0 : Own Actn.enc 106 4 w.heap.size (w.alloc (.cells #[] 106)) (.slice (some ⟨w.heap.size, 0, none⟩) 0 0) [] := Own.lit rfl (Nat.le_refl _) rfl rfl Actn.enc_length (by simp)
    exact Own.upR o0 hlt z0
  case round =>
    obtain ⟨j, out, rfl, jj0, jj6, hol, hok, ⟨z, rfl⟩, hr, hown⟩ := hrel
    have H1 := Lib.hid hr; have HO := Lib.hid hown; have Hok := Lib.hid hok
    have hLz : LtS rb z.val := ⟨hr.lt⟩
    clear hr hown hok
    by_cases hjz : 0 < j
    · go_wp2_with fail
      refine (action_any w0 _ rb _ 0 H1.out (by omega) (by omega) (by omega)).mono ?_; rintro e w' ⟨x, rfl, hxo, ⟨z1, rfl⟩, hr⟩
      have H2 := Lib.hid hr; clear hr
      have HO1 := Lib.hid (HO.out.upR hlt z1)
      have hxo' := hxo rfl
      clear hxo
      go_wp2_with (at_builtin; refine wpList_pushG fActn rfl (.tmp 14) (.tmp 17) rfl Actn.enc Actn.enc_length w0 (lo := w.heap.size) [x] out rfl HO1.out H2.out.ext hLe LeS.le rfl rfl (by go_simp) rfl (oneAs _) (by simp; omega) (by simp; omega) ?_; intro v7 z7 o7 g7 b7; obtain ⟨R7, E7⟩ := rd_push (w := w) H2.out (GB.upR z.grown z1) HO1.out hlt (Nat.le_refl _) z7.ext g7; clear g7 b7)
      have HO7 := Lib.hid o7; have HR7 := Lib.hid R7
      clear o7 R7
      go_wp2_with fail
      go_roundw
      case rel => exact ⟨j - 1, out ++ [x], by go_num, by omega, by omega, by rw [List.length_append]; simp; omega, by intro y hy; rcases List.mem_append.1 hy with hy | hy; exact Hok.out y hy; simp at hy; subst hy; exact hxo', E7, HR7.out.mono (by omega), HO7.out⟩
      case measure => simp [intOf]; omega
    · obtain rfl : j = 0 := by omega
      go_wp2_with fail
      refine (odd_any w0 _ rb _ n H1.out (by omega) (by omega) (by omega)).mono ?_; rintro e w' ⟨bo, rfl, hbo, ⟨z1, rfl⟩, hr⟩
      have H2 := Lib.hid hr; clear hr
      have HO1 := Lib.hid (HO.out.upR hlt z1)
      rcases bo with _ | _
      · go_wp2_with fail
        go_ret
        exact ⟨_, out, rfl, by omega, fun _ => Hok.out, fun _ => by omega, ExtR.of (GB.upR z.grown z1), H2.out.mono (by omega), HO1.out⟩
      · have hn : n ≠ 0 := fun e => by cases hbo e
        go_wp2_with fail
        refine (pick_any w0 _ rb _ 2 H2.out (by omega) (by omega) (by omega)).mono ?_; rintro e w' ⟨q, rfl, q0, q1, q2, ⟨z2, rfl⟩, hr⟩
        have H3 := Lib.hid hr; clear hr
        have HO2 := Lib.hid (HO1.out.upR hlt z2)
        have hq1 := q1 (by omega)
        clear q1 q2
        have hq : q = 0 ∨ q = 1 := by omega
        rcases hq with rfl | rfl
        · go_wp2_with fail
          refine (action_any w0 _ rb _ 1 H3.out (by omega) (by omega) (by omega)).mono ?_; rintro e w' ⟨x, rfl, hxo, ⟨z3, rfl⟩, hr⟩
          have H4 := Lib.hid hr; clear hr
          have HO3 := Lib.hid (HO2.out.upR hlt z3)
          go_wp2_with (at_builtin; refine wpList_pushG fActn rfl (.tmp 25) (.tmp 28) rfl Actn.enc Actn.enc_length w0 (lo := w.heap.size) [x] out rfl HO3.out H4.out.ext hLe LeS.le rfl rfl (by go_simp) rfl (oneAs _) (by simp; omega) (by simp; omega) ?_; intro v7 z7 o7 g7 b7; obtain ⟨R7, E7⟩ := rd_push (w := w) H4.out (GB.upR (GB.upR (GB.upR z.grown z1) z2) z3) HO3.out hlt (Nat.le_refl _) z7.ext g7; clear g7 b7)
          go_ret
          exact ⟨_, out ++ [x], rfl, by rw [List.length_append]; simp; omega, fun e => absurd e hn, fun e => absurd e hn, E7, R7.mono (by omega), o7⟩
        · have G3 : w.grownBy z2.val (some rb) := GB.upR (GB.upR z.grown z1) z2
          have HG3 := Lib.hid G3; clear G3
          have hol6 : out.length ≤ 6 := by omega
          go_wp2_with fail
          go_loopw [5] (fun s5 wr => ∃ (out : List Actn), out.length ≤ 11 ∧ (∃ z : ExtR rb w, wr = z.val) ∧ Rd w0 wr rb (lim + 150) ∧ Own Actn.enc 106 4 w.heap.size wr s5 out) (fun s5 _ => 11 - (match s5 with | .slice _ n _ => n | _ => 0))
          case atStart => exact ⟨out, by omega, ExtR.of HG3.out, H3.out.mono (by omega), HO2.out⟩
          case round =>
            obtain ⟨o2, hl2, ⟨z5, rfl⟩, hr, hown⟩ := hrel
            have H5 := Lib.hid hr; have HO5 := Lib.hid hown
            have hLz5 : LtS rb z5.val := ⟨hr.lt⟩
            obtain ⟨p5, c5, rfl, _, _⟩ := (hown.sl Actn.enc_length).openc
            clear hr hown
            by_cases h10 : o2.length ≤ 10
            · go_wp2_with (at_builtin; refine wpList_pushG fActn rfl (.tmp 33) (.tmp 35) rfl Actn.enc Actn.enc_length w0 (lo := w.heap.size) [⟨1, 0, 0, 0⟩] o2 rfl HO5.out H5.out.ext hLe LeS.le rfl rfl (by go_simp) rfl (oneAs _) (by simp; omega) (by simp; omega) ?_; intro v7 z7 o7 g7 b7; obtain ⟨R7, E7⟩ := rd_push (w := w) H5.out z5.grown HO5.out hlt (Nat.le_refl _) z7.ext g7; clear g7 b7)
              obtain ⟨p7, c7, hv7, _, _⟩ := (o7.sl Actn.enc_length).openc
              subst hv7
              have HO7 := Lib.hid o7; have HR7 := Lib.hid R7
              clear o7 R7
              go_wp2_with fail
              go_roundw
              case rel => exact ⟨o2 ++ [⟨1, 0, 0, 0⟩], by rw [List.length_append]; simp; omega, E7, HR7.out, HO7.out⟩
              case measure => simp; omega
            · go_wp2_with fail
              go_ret
              exact ⟨_, o2, rfl, by omega, fun e => absurd e hn, fun e => absurd e hn, ⟨z5, rfl⟩, H5.out.mono (by omega), HO5.out⟩
end Go.Proofs.YteiemjebdhmnaaaGreat
namespace Go.Proofs.YteiemjebdhmnaaaGreat
open Go Go.RowKit Go.Proofs

theorem rds_take {x : Actn} {f t key : Int} {k : Nat} (h : x.rk[k]? = some key) : (x.rds f t).take (k + 1) = (x.rds f t).take k ++ [⟨key, if key = x.src then f else t⟩] := by
  rw [List.take_add_one]
  unfold Actn.rds
  rw [List.getElem?_map, h]
  rfl
theorem rds_len (x : Actn) (f t : Int) : (x.rds f t).length = x.rk.length := by unfold Actn.rds; rw [List.length_map]
theorem oneEs' (l : List Ent) : ∀ u ∈ l.flatMap Ent.enc, u.oneCell' = true := by
  intro u hu
  obtain ⟨x, _, h⟩ := List.mem_flatMap.1 hu
  exact oneE x u h
theorem row3 (w : World) (a b c : Obj) : (((w.alloc a).alloc b).alloc c).heap[w.heap.size + 1 + 1]? = some c ∧ (((w.alloc a).alloc b).alloc c).heap[w.heap.size + 1]? = some b := by
  have e : (w.alloc a).heap.size = w.heap.size + 1 := by simp
  have h1 := heap_alloc2_new (w.alloc a) b c
  have h2 := heap_alloc2_old (w.alloc a) b c
  rw [e] at h1 h2
  exact ⟨h1, h2⟩
theorem Own.setLo {α : Type} {enc : α → List Value} {e sz lo : Nat} {w : World} {v : Value} {l : List α} (h : Own enc e sz lo w v l) {g i : Nat} {u : Value} (hg : g < lo) : Own enc e sz lo (w.setCell ⟨g, i, none⟩ u) v l := h.setOld _ u hg
theorem Own.alloc {α : Type} {enc : α → List Value} {e sz lo : Nat} {w : World} {v : Value} {l : List α} (h : Own enc e sz lo w v l) {o : Obj} : Own enc e sz lo (w.alloc o) v l := h.up ((Ext.refl _).alloc _)
theorem keepRow {α : Type} {enc : α → List Value} {e sz lo rb : Nat} {w W1 w7 : World} {v : Value} {l : List α} {o r : Obj} (hG : w.grownBy W1 (some rb)) (hown : Own enc e sz lo W1 v l) (hlt : rb < lo) (hw : w.heap.size ≤ lo) (hr : W1.heap[rb]? = some r) (g7 : (W1.alloc o).drew.grownBy w7 v.ownBlock) :
    w7.heap[rb]? = some r ∧ w.grownBy w7 (some rb) := by
  have hs : rb < W1.heap.size := (Array.getElem?_eq_some_iff.1 hr).1
  have g8 : (W1.alloc o).grownBy w7 v.ownBlock := grownBy_trans (grownBy_ext (Ext.refl _).drew) g7
  constructor
  · refine (g8.block rb (by simp; omega) (fun e => ?_)).trans ((heap_alloc_old W1 o hs).trans hr)
    rcases hown.ne_rb hlt with h | h
    · rw [h] at e; cases e
    · exact h e.symm
  · have hG2 := GB.alloc hG o
    refine ⟨g8.os.trans hG2.os, g8.tape.trans hG2.tape, g8.output.trans hG2.output, Nat.le_trans hG2.size g8.size, fun n hn hne => ?_⟩
    refine (g8.block n (Nat.lt_of_lt_of_le hn hG2.size) (fun e => ?_)).trans (hG2.block n hn hne)
    have := (World.ownsRow.lt hown n e.symm).1
    omega
theorem Apart.of_lt {α β : Type} {enc : α → List Value} {enc' : β → List Value} {e sz lo e' sz' lo' : Nat} {w w' : World} {v v' : Value} {l : List α} {l' : List β} (h : Own enc e sz lo w v l) (h' : Own enc' e' sz' lo' w' v' l') (hlt : w.heap.size ≤ lo') : Apart v v' := by
  rcases Own.apart h h' hlt with h | h
  · exact .inr h
  · exact .inl h
/-- One entry into one. -/
theorem put_one (a t b f : Int) : putF false b f [⟨a, t⟩] = if a = b then [⟨b, f⟩] else sort2 ⟨a, t⟩ ⟨b, f⟩ := by
  unfold putF putTo2 sort2
  simp only [List.foldl_cons, List.foldl_nil, putStep]
  rcases Int.lt_trichotomy a b with h | h | h
  · have h1 : ¬ b ≤ a := by omega
    have h2 : a ≠ b := by omega
    simp [h, h1, h2]
  · subst h; simp
  · have h1 : b ≤ a := by omega
    have h2 : a ≠ b := by omega
    have h3 : ¬ a < b := by omega
    simp [h1, h2, h3]
end Go.Proofs.YteiemjebdhmnaaaGreat
namespace Go.Proofs.YteiemjebdhmnaaaGreat
open Go Go.RowKit Go.Proofs

theorem opAt {l : List Oper} {i : Nat} {o : Oper} (h : l[i]? = some o) : l.toArray[i]? = some o := by
  rw [List.getElem?_toArray]
  exact h
end Go.Proofs.YteiemjebdhmnaaaGreat
