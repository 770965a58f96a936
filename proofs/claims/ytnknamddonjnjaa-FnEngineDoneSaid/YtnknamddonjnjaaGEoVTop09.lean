/- Walks: drawn lists of actions. Plain ground: for the walk of what an action does. Plain ground: worlds in which some blocks have turned; rows of blocks. Plain ground: the operations of a region, one by one. -/
import Derived.Test.YtnknamddonjnjaaGEoVTop08
import Derived.Test.YtnknamddonjnjaaGEoVTop04
import Derived.Test.YtnknamddonjnjaaGEoVTop06
import Derived.Test.YtnknamddonjnjaaGEoVTop05
import Derived.Deep.RegionLaw
import Derived.Test.YtnknamddonjnjaaGEoVTop07
set_option linter.unusedSimpArgs false
set_option linter.unusedVariables false
namespace Go.Proofs.Ytnknamddonjnjaa
open Go Go.RowKit Go.Proofs

theorem Own.ne_rb {α : Type} {enc : α → List Value} {e sz lo rb : Nat} {w : World} {v : Value} {l : List α} (h : Own enc e sz lo w v l) (hlt : rb < lo) : v.ownBlock = none ∨ v.ownBlock ≠ some rb := by
  cases hv : v.ownBlock with
  | none => exact .inl rfl
  | some k =>
    right; intro e
    have h1 := (World.ownsRow.lt h k hv).1
    cases e; omega
theorem Own.upR {α : Type} {enc : α → List Value} {e sz lo rb : Nat} {W : World} {v : Value} {l : List α} (h : Own enc e sz lo W v l) (hlt : rb < lo) (z : ExtR rb W) : Own enc e sz lo z.val v l := Own.kept h z.grown (h.ne_rb hlt)
theorem rd_push {α : Type} {enc : α → List Value} {e sz lo rb : Nat} {lim : Int} {w0 w W1 w7 : World} {o : Obj} {v : Value} {l : List α} (hR : Rd w0 W1 rb lim) (hG : w.grownBy W1 (some rb)) (hown : Own enc e sz lo W1 v l) (hlo : rb < lo) (hw : w.heap.size ≤ lo) (hE : Ext w0 w7) (g7 : (W1.alloc o).grownBy w7 v.ownBlock) :
    Rd w0 w7 rb lim ∧ (∃ z : ExtR rb w, w7 = z.val) := by
  have h1 : W1.heap.size ≤ (W1.alloc o).heap.size := by simp
  refine ⟨(hR.alloc o).grown hE (g7.block rb (Nat.lt_of_lt_of_le hR.lt h1) (fun e => ?_)), ExtR.of ?_⟩
  · rcases hown.ne_rb hlo with h | h
    · rw [h] at e; cases e
    · exact h e.symm
  · have hG2 := GB.alloc hG o
    refine ⟨g7.os.trans hG2.os, g7.tape.trans hG2.tape, g7.output.trans hG2.output, Nat.le_trans hG2.size g7.size, fun n hn hne => ?_⟩
    refine (g7.block n (Nat.lt_of_lt_of_le hn hG2.size) (fun e => ?_)).trans (hG2.block n hn hne)
    have := (World.ownsRow.lt hown n e.symm).1
    omega
theorem oneAs (l : List Actn) : ∀ u ∈ l.flatMap Actn.enc, u.oneCell' = true := by
  intro u hu
  obtain ⟨x, _, h⟩ := List.mem_flatMap.1 hu
  exact oneA x u h
set_option maxRecDepth 100000 in
set_option maxHeartbeats 2000000 in
theorem actions_any (w0 w : World) (rb : Nat) (lim n : Int) (h : Rd w0 w rb lim) (hl : lim ≤ 100000) (hn0 : 0 ≤ n) (hn1 : n ≤ 1000000) :
    Calls Try.prog 31 #[.pointer (some ⟨rb, 0, none⟩), .int .i64 n] w fun e w' => ∃ v' l, e = .returned v' ∧ l.length ≤ 11 ∧ (n = 0 → ∀ x ∈ l, x.ok = true) ∧ (n = 0 → l.length ≤ 6) ∧ (∃ z : ExtR rb w, w' = z.val) ∧ Rd w0 w' rb (lim + 200) ∧ Own Actn.enc 65 4 w.heap.size w' v' l := by
  have H := Lib.hid h
  have hL : LtS rb w := ⟨h.lt⟩
  have hLe : w0.heap.size ≤ w.heap.size := h.ext.size
  have hlt := h.lt
  clear h
  go_enter Try.func31, Try.ntmps31
  go_wp2_with fail
  refine (pick_any w0 _ rb lim 7 (H.out.up (by repeat (first | (with_reducible exact Ext.refl _) | (with_reducible refine Ext.up ?_ _) | (with_reducible refine Ext.alloc ?_ _) | (with_reducible refine Ext.drew ?_) | (with_reducible refine Ext.setRow ?_ (by first | exact LeS.le | exact LeS.add _ | (simp; done) | (simp; omega)) _) | (with_reducible refine Ext.setCell ?_ (by first | exact LeS.le | exact LeS.add _ | (simp; done) | (simp; omega)) _)))) (by omega) (by omega) (by omega)).mono ?_; rintro e w' ⟨j0, rfl, j00, j01, j02, ⟨z0, rfl⟩, hr⟩
  have H0 := Lib.hid hr
  have hj := j01 (by omega)
  clear hr j01 j02
  go_wp2_with fail
  go_loopw [5, 6] (fun s5 s6 wr => ∃ (j : Int) (out : List Actn), s6 = .int .i64 j ∧ 0 ≤ j ∧ j ≤ 6 ∧ out.length + j ≤ 6 ∧ (∀ x ∈ out, x.ok = true) ∧ (∃ z : ExtR rb w, wr = z.val) ∧ Rd w0 wr rb (lim + 100 - 16 * j) ∧ Own Actn.enc 65 4 w.heap.size wr s5 out) (fun _ s6 _ => (intOf s6).toNat)
  case atStart =>
    refine ⟨j0, [], rfl, j00, by omega, by simp; omega, by simp, ExtR.of (by repeat (first | (with_reducible exact grownBy_refl _ _) | (with_reducible refine GB.setNew ?_ (by first | exact LeS.le | exact LeS.add _ | (simp; done) | (simp; omega)) _ _) | (with_reducible refine GB.alloc ?_ _) | (with_reducible refine GB.drew ?_) | (with_reducible refine GB.upR ?_ _) | (with_reducible refine GB.up ?_ _))), H0.out.mono (by omega), ?_⟩
    have o0 : Own Actn.enc 65 4 w.heap.size (w.alloc (.cells #[] 65)) (.slice (some ⟨w.heap.size, 0, none⟩) 0 0) [] := Own.lit rfl (Nat.le_refl _) rfl rfl Actn.enc_length (by simp)
    exact Own.upR o0 hlt z0
  case round =>
    obtain ⟨j, out, rfl, jj0, jj6, hol, hok, ⟨z, rfl⟩, hr, hown⟩ := hrel
    have H1 := Lib.hid hr; have HO := Lib.hid hown; have Hok := Lib.hid hok
    have hLz : LtS rb z.val := ⟨hr.lt⟩
    clear hr hown hok
    by_cases hjz : 0 < j
    · go_wp2_with fail
      refine (action_any w0 _ rb _ 0 H1.out (by omega) (by omega) (by omega)).mono ?_; rintro e w' ⟨x, rfl, hxo, ⟨z1, rfl⟩, hr⟩
      have H2 := Lib.hid hr; clear hr
      have HO1 := Lib.hid (HO.out.upR hlt z1)
      have hxo' := hxo rfl
      clear hxo
      go_wp2_with (at_builtin; refine wpList_pushG fActn rfl (.tmp 14) (.tmp 17) rfl Actn.enc Actn.enc_length w0 (lo := w.heap.size) [x] out rfl HO1.out H2.out.ext hLe LeS.le rfl rfl (by go_simp) rfl (oneAs _) (by simp; omega) (by simp; omega) ?_; intro v7 z7 o7 g7 b7; obtain ⟨R7, E7⟩ := rd_push (w := w) H2.out (GB.upR z.grown z1) HO1.out hlt (Nat.le_refl _) z7.ext g7; clear g7 b7)
      have HO7 := Lib.hid o7; have HR7 := Lib.hid R7
      clear o7 R7
      go_wp2_with fail
      go_roundw
      case rel => exact ⟨j - 1, out ++ [x], by go_num, by omega, by omega, by rw [List.length_append]; simp; omega, by intro y hy; rcases List.mem_append.1 hy with hy | hy; exact Hok.out y hy; simp at hy; subst hy; exact hxo', E7, HR7.out.mono (by omega), HO7.out⟩
      case measure => simp [intOf]; omega
    · obtain rfl : j = 0 := by omega
      go_wp2_with fail
      refine (odd_any w0 _ rb _ n H1.out (by omega) (by omega) (by omega)).mono ?_; rintro e w' ⟨bo, rfl, hbo, ⟨z1, rfl⟩, hr⟩
      have H2 := Lib.hid hr; clear hr
      have HO1 := Lib.hid (HO.out.upR hlt z1)
      rcases bo with _ | _
      · go_wp2_with fail
        go_ret
        exact ⟨_, out, rfl, by omega, fun _ => Hok.out, fun _ => by omega, ExtR.of (GB.upR z.grown z1), H2.out.mono (by omega), HO1.out⟩
      · have hn : n ≠ 0 := fun e => by cases hbo e
        go_wp2_with fail
        refine (pick_any w0 _ rb _ 2 H2.out (by omega) (by omega) (by omega)).mono ?_; rintro e w' ⟨q, rfl, q0, q1, q2, ⟨z2, rfl⟩, hr⟩
        have H3 := Lib.hid hr; clear hr
        have HO2 := Lib.hid (HO1.out.upR hlt z2)
        have hq1 := q1 (by omega)
        clear q1 q2
        have hq : q = 0 ∨ q = 1 := by omega
        rcases hq with rfl | rfl
        · go_wp2_with fail
          refine (action_any w0 _ rb _ 1 H3.out (by omega) (by omega) (by omega)).mono ?_; rintro e w' ⟨x, rfl, hxo, ⟨z3, rfl⟩, hr⟩
          have H4 := Lib.hid hr; clear hr
          have HO3 := Lib.hid (HO2.out.upR hlt z3)
          go_wp2_with (at_builtin; refine wpList_pushG fActn rfl (.tmp 25) (.tmp 28) rfl Actn.enc Actn.enc_length w0 (lo := w.heap.size) [x] out rfl HO3.out H4.out.ext hLe LeS.le rfl rfl (by go_simp) rfl (oneAs _) (by simp; omega) (by simp; omega) ?_; intro v7 z7 o7 g7 b7; obtain ⟨R7, E7⟩ := rd_push (w := w) H4.out (GB.upR (GB.upR (GB.upR z.grown z1) z2) z3) HO3.out hlt (Nat.le_refl _) z7.ext g7; clear g7 b7)
          go_ret
          exact ⟨_, out ++ [x], rfl, by rw [List.length_append]; simp; omega, fun e => absurd e hn, fun e => absurd e hn, E7, R7.mono (by omega), o7⟩
        · have G3 : w.grownBy z2.val (some rb) := GB.upR (GB.upR z.grown z1) z2
          have HG3 := Lib.hid G3; clear G3
          have hol6 : out.length ≤ 6 := by omega
          go_wp2_with fail
          go_loopw [5] (fun s5 wr => ∃ (out : List Actn), out.length ≤ 11 ∧ (∃ z : ExtR rb w, wr = z.val) ∧ Rd w0 wr rb (lim + 150) ∧ Own Actn.enc 65 4 w.heap.size wr s5 out) (fun s5 _ => 11 - (match s5 with | .slice _ n _ => n | _ => 0))
          case atStart => exact ⟨out, by omega, ExtR.of HG3.out, H3.out.mono (by omega), HO2.out⟩
          case round =>
            obtain ⟨o2, hl2, ⟨z5, rfl⟩, hr, hown⟩ := hrel
            have H5 := Lib.hid hr; have HO5 := Lib.hid hown
            have hLz5 : LtS rb z5.val := ⟨hr.lt⟩
            obtain ⟨p5, c5, rfl, _, _⟩ := (hown.sl Actn.enc_length).openc
            clear hr hown
            by_cases h10 : o2.length ≤ 10
            · go_wp2_with (at_builtin; refine wpList_pushG fActn rfl (.tmp 33) (.tmp 35) rfl Actn.enc Actn.enc_length w0 (lo := w.heap.size) [⟨1, 0, 0, 0⟩] o2 rfl HO5.out H5.out.ext hLe LeS.le rfl rfl (by go_simp) rfl (oneAs _) (by simp; omega) (by simp; omega) ?_; intro v7 z7 o7 g7 b7; obtain ⟨R7, E7⟩ := rd_push (w := w) H5.out z5.grown HO5.out hlt (Nat.le_refl _) z7.ext g7; clear g7 b7)
              obtain ⟨p7, c7, hv7, _, _⟩ := (o7.sl Actn.enc_length).openc
              subst hv7
              have HO7 := Lib.hid o7; have HR7 := Lib.hid R7
              clear o7 R7
              go_wp2_with fail
              go_roundw
              case rel => exact ⟨o2 ++ [⟨1, 0, 0, 0⟩], by rw [List.length_append]; simp; omega, E7, HR7.out, HO7.out⟩
              case measure => simp; omega
            · go_wp2_with fail
              go_ret
              exact ⟨_, o2, rfl, by omega, fun e => absurd e hn, fun e => absurd e hn, ⟨z5, rfl⟩, H5.out.mono (by omega), HO5.out⟩
end Go.Proofs.Ytnknamddonjnjaa
namespace Go.Proofs.Ytnknamddonjnjaa
open Go Go.RowKit Go.Proofs

theorem rds_take {x : Actn} {f t key : Int} {k : Nat} (h : x.rk[k]? = some key) : (x.rds f t).take (k + 1) = (x.rds f t).take k ++ [⟨key, if key = x.src then f else t⟩] := by
  rw [List.take_add_one]
  unfold Actn.rds
  rw [List.getElem?_map, h]
  rfl
theorem rds_len (x : Actn) (f t : Int) : (x.rds f t).length = x.rk.length := by unfold Actn.rds; rw [List.length_map]
theorem oneEs' (l : List Ent) : ∀ u ∈ l.flatMap Ent.enc, u.oneCell' = true := by
  intro u hu
  obtain ⟨x, _, h⟩ := List.mem_flatMap.1 hu
  exact oneE x u h
theorem row3 (w : World) (a b c : Obj) : (((w.alloc a).alloc b).alloc c).heap[w.heap.size + 1 + 1]? = some c ∧ (((w.alloc a).alloc b).alloc c).heap[w.heap.size + 1]? = some b := by
  have e : (w.alloc a).heap.size = w.heap.size + 1 := by simp
  have h1 := heap_alloc2_new (w.alloc a) b c
  have h2 := heap_alloc2_old (w.alloc a) b c
  rw [e] at h1 h2
  exact ⟨h1, h2⟩
theorem Own.setLo {α : Type} {enc : α → List Value} {e sz lo : Nat} {w : World} {v : Value} {l : List α} (h : Own enc e sz lo w v l) {g i : Nat} {u : Value} (hg : g < lo) : Own enc e sz lo (w.setCell ⟨g, i, none⟩ u) v l := h.setOld _ u hg
theorem Own.alloc {α : Type} {enc : α → List Value} {e sz lo : Nat} {w : World} {v : Value} {l : List α} (h : Own enc e sz lo w v l) {o : Obj} : Own enc e sz lo (w.alloc o) v l := h.up ((Ext.refl _).alloc _)
theorem keepRow {α : Type} {enc : α → List Value} {e sz lo rb : Nat} {w W1 w7 : World} {v : Value} {l : List α} {o r : Obj} (hG : w.grownBy W1 (some rb)) (hown : Own enc e sz lo W1 v l) (hlt : rb < lo) (hw : w.heap.size ≤ lo) (hr : W1.heap[rb]? = some r) (g7 : (W1.alloc o).drew.grownBy w7 v.ownBlock) :
    w7.heap[rb]? = some r ∧ w.grownBy w7 (some rb) := by
  have hs : rb < W1.heap.size := (Array.getElem?_eq_some_iff.1 hr).1
  have g8 : (W1.alloc o).grownBy w7 v.ownBlock := grownBy_trans (grownBy_ext (Ext.refl _).drew) g7
  constructor
  · refine (g8.block rb (by simp; omega) (fun e => ?_)).trans ((heap_alloc_old W1 o hs).trans hr)
    rcases hown.ne_rb hlt with h | h
    · rw [h] at e; cases e
    · exact h e.symm
  · have hG2 := GB.alloc hG o
    refine ⟨g8.os.trans hG2.os, g8.tape.trans hG2.tape, g8.output.trans hG2.output, Nat.le_trans hG2.size g8.size, fun n hn hne => ?_⟩
    refine (g8.block n (Nat.lt_of_lt_of_le hn hG2.size) (fun e => ?_)).trans (hG2.block n hn hne)
    have := (World.ownsRow.lt hown n e.symm).1
    omega
theorem Apart.of_lt {α β : Type} {enc : α → List Value} {enc' : β → List Value} {e sz lo e' sz' lo' : Nat} {w w' : World} {v v' : Value} {l : List α} {l' : List β} (h : Own enc e sz lo w v l) (h' : Own enc' e' sz' lo' w' v' l') (hlt : w.heap.size ≤ lo') : Apart v v' := by
  rcases Own.apart h h' hlt with h | h
  · exact .inr h
  · exact .inl h
/-- One entry into one. -/
theorem put_one (a t b f : Int) : putF false b f [⟨a, t⟩] = if a = b then [⟨b, f⟩] else sort2 ⟨a, t⟩ ⟨b, f⟩ := by
  unfold putF putTo2 sort2
  simp only [List.foldl_cons, List.foldl_nil, putStep]
  rcases Int.lt_trichotomy a b with h | h | h
  · have h1 : ¬ b ≤ a := by omega
    have h2 : a ≠ b := by omega
    simp [h, h1, h2]
  · subst h; simp
  · have h1 : b ≤ a := by omega
    have h2 : a ≠ b := by omega
    have h3 : ¬ a < b := by omega
    simp [h1, h2, h3]
end Go.Proofs.Ytnknamddonjnjaa
namespace Go.Proofs.Ytnknamddonjnjaa
open Go Go.RowKit

/-- The block of v, if it has one, is below hi. -/
def Under (hi : Nat) (v : Value) : Prop := ∀ k, v.ownBlock = some k → k < hi
theorem Under.le {a b : Nat} {v : Value} (h : Under a v) (hab : a ≤ b) : Under b v := fun k hk => Nat.lt_of_lt_of_le (h k hk) hab
theorem Own.under {α : Type} {enc : α → List Value} {e sz lo : Nat} {w : World} {v : Value} {l : List α} (h : Own enc e sz lo w v l) : Under w.heap.size v := fun k hk => (World.ownsRow.lt h k hk).2
theorem Own.apartU {α : Type} {enc : α → List Value} {e sz lo hi : Nat} {w : World} {v u : Value} {l : List α} (h : Own enc e sz lo w v l) (hu : Under hi u) (hle : hi ≤ lo) : Apart v u := by
  unfold Apart
  cases hv : v.ownBlock with
  | none => exact .inl rfl
  | some k =>
    right; intro e
    have h1 := (World.ownsRow.lt h k hv).1
    have h2 := hu k e.symm
    omega
/-- Blocks from hi on are as they were. -/
def Keep (hi : Nat) (w w' : World) : Prop := w.heap.size ≤ w'.heap.size ∧ ∀ k, hi ≤ k → k < w.heap.size → w'.heap[k]? = w.heap[k]?
theorem Keep.refl (hi : Nat) (w : World) : Keep hi w w := ⟨Nat.le_refl _, fun _ _ _ => rfl⟩
theorem Keep.trans {hi : Nat} {a b c : World} (h : Keep hi a b) (k : Keep hi b c) : Keep hi a c :=
  ⟨Nat.le_trans h.1 k.1, fun i hi' hs => (k.2 i hi' (Nat.lt_of_lt_of_le hs h.1)).trans (h.2 i hi' hs)⟩
theorem Keep.mono {a b : Nat} {w w' : World} (h : Keep a w w') (hab : a ≤ b) : Keep b w w' := ⟨h.1, fun k hk => h.2 k (Nat.le_trans hab hk)⟩
theorem Keep.grown {hi : Nat} {w w' : World} {v : Value} (hg : w.grownBy w' v.ownBlock) (hu : Under hi v) : Keep hi w w' :=
  ⟨hg.size, fun k hk hs => hg.block k hs (fun e => by have := hu k (by first | exact e | exact e.symm); omega)⟩
theorem Own.keepHi {α : Type} {enc : α → List Value} {e sz lo hi : Nat} {w w' : World} {v : Value} {l : List α} (h : Own enc e sz lo w v l) (hk : Keep hi w w') (hle : hi ≤ lo) : Own enc e sz lo w' v l := by
  refine ⟨h.1, ?_⟩
  rcases h.2 with h2 | ⟨g, cap, cur, hv, hlo, hg, r⟩
  · exact .inl h2
  · exact .inr ⟨g, cap, cur, hv, hlo, (hk.2 g (by omega) (Array.getElem?_eq_some_iff.1 hg).1).trans hg, r⟩
theorem Own.setAllOld {α : Type} {enc : α → List Value} {e sz lo g : Nat} {v : Value} {l : List α} (hlt : g < lo) : ∀ (cs : List Value) {w : World} (m : Nat), Own enc e sz lo w v l → Own enc e sz lo (setAllW w g m cs) v l
  | [], _, _, h => h
  | c :: cs, _, m, h => Own.setAllOld hlt cs (m + 1) (h.setOld ⟨g, m, none⟩ c hlt)
theorem Filled.snoc {α : Type} {enc : α → List Value} {sz : Nat} (he : ∀ x, (enc x).length = sz) {l : List α} {k : Nat} {xs : List Value} (x : α) (hk : l.length = k) (hlen : k * sz + sz ≤ xs.length) (h : Filled enc sz l k xs) :
    Filled enc sz (l ++ [x]) (k + 1) (setAll xs (k * sz) (enc x)) := by
  subst hk
  intro i y hi hy j u hu
  have hj : j < sz := by have := (List.getElem?_eq_some_iff.1 hu).1; rw [he] at this; exact this
  rw [setAll_get _ _ _ _ (by rw [he]; exact hlen)]
  by_cases hik : i = l.length
  · subst hik
    rw [List.getElem?_append_right (Nat.le_refl _), Nat.sub_self] at hy
    simp only [List.getElem?_cons_zero, Option.some.injEq] at hy
    subst hy
    rw [if_pos (by rw [he]; omega), show l.length * sz + j - l.length * sz = j from by omega]; exact hu
  · have : i * sz + sz ≤ l.length * sz := by rw [← Nat.succ_mul]; exact Nat.mul_le_mul_right _ (by omega)
    rw [if_neg (by omega)]
    rw [List.getElem?_append_left (by omega)] at hy
    exact h i y (by omega) hy j u hu
/-- A tree's three slices, of the call's own, one made behind the other. -/
def OT (eE eB eA eI lo hi : Nat) (w : World) (v0 v1 v2 : Value) (base : List Ent) (bs : List TB) (pr : List Int) : Prop :=
  ∃ s1 s2, lo ≤ s1 ∧ s1 ≤ s2 ∧ s2 ≤ hi ∧ Own Ent.enc eE 2 lo w v0 base ∧ Under s1 v0 ∧ OB eB eA s1 w v1 bs ∧ Under s2 v1 ∧ (∀ x ∈ bs, Under s2 x.v) ∧ Own encI eI 1 s2 w v2 pr ∧ Under hi v2
theorem OT.up {eE eB eA eI lo hi : Nat} {w w' : World} {v0 v1 v2 : Value} {base : List Ent} {bs : List TB} {pr : List Int} (h : OT eE eB eA eI lo hi w v0 v1 v2 base bs pr) (hE : Ext w w') : OT eE eB eA eI lo hi w' v0 v1 v2 base bs pr := by
  obtain ⟨s1, s2, a, b, c, h1, h2, h3, h4, h5, h6, h7⟩ := h
  exact ⟨s1, s2, a, b, c, h1.up hE, h2, h3.up hE, h4, h5, h6.up hE, h7⟩
theorem OB.setOld {eB eA lo : Nat} {w : World} {v : Value} {bs : List TB} (h : OB eB eA lo w v bs) (a : Addr) (u : Value) (hlt : a.block < lo) : OB eB eA lo (w.setCell a u) v bs :=
  ⟨h.1.setOld a u hlt, fun x hx => ⟨(h.2.1 x hx).1.setOld a u hlt, (h.2.1 x hx).2⟩, h.2.2⟩
theorem OB.lo {eB eA lo lo' : Nat} {w : World} {v : Value} {bs : List TB} (h : OB eB eA lo w v bs) (hl : lo' ≤ lo) : OB eB eA lo' w v bs :=
  ⟨h.1.lo hl, fun x hx => ⟨(h.2.1 x hx).1.lo hl, (h.2.1 x hx).2⟩, h.2.2⟩
theorem OT.setOld {eE eB eA eI lo hi : Nat} {w : World} {v0 v1 v2 : Value} {base : List Ent} {bs : List TB} {pr : List Int} (h : OT eE eB eA eI lo hi w v0 v1 v2 base bs pr) (a : Addr) (u : Value) (hlt : a.block < lo) : OT eE eB eA eI lo hi (w.setCell a u) v0 v1 v2 base bs pr := by
  obtain ⟨s1, s2, h1, h2, h3, h4, h5, h6, h7, h8, h9, h10⟩ := h
  exact ⟨s1, s2, h1, h2, h3, h4.setOld a u hlt, h5, h6.setOld a u (by omega), h7, h8, h9.setOld a u (by omega), h10⟩
theorem OT.mono {eE eB eA eI lo hi lo' hi' : Nat} {w : World} {v0 v1 v2 : Value} {base : List Ent} {bs : List TB} {pr : List Int} (h : OT eE eB eA eI lo hi w v0 v1 v2 base bs pr) (hl : lo' ≤ lo) (hh : hi ≤ hi') : OT eE eB eA eI lo' hi' w v0 v1 v2 base bs pr := by
  obtain ⟨s1, s2, h1, h2, h3, h4, h5, h6, h7, h8, h9, h10⟩ := h
  exact ⟨s1, s2, by omega, h2, by omega, h4.lo hl, h5, h6, h7, h8, h9, h10.le hh⟩
theorem OB.under {eB eA lo : Nat} {w : World} {v : Value} {bs : List TB} (h : OB eB eA lo w v bs) : ∀ x ∈ bs, Under w.heap.size x.v := fun x hx => (h.2.1 x hx).1.under
theorem setCell_size (w : World) (a : Addr) (u : Value) : (w.setCell a u).heap.size = w.heap.size := by simp [World.setCell]
/-- A tree in memory. -/
structure ST (w : World) (v0 v1 v2 : Value) (t : Tree) : Prop where
  base : SL (RF Ent.enc) 2 w v0 t.base
  bs : SB w v1 t.bs
  pr : SL (RF encI) 1 w v2 t.pr
theorem ST.up {w w' : World} {v0 v1 v2 : Value} {t : Tree} (h : ST w v0 v1 v2 t) (hE : Ext w w') : ST w' v0 v1 v2 t := ⟨h.base.up hE, h.bs.up hE, h.pr.up hE⟩
theorem OT.st {eE eB eA eI lo hi : Nat} {w : World} {v0 v1 v2 : Value} {base : List Ent} {bs : List TB} {pr : List Int} (h : OT eE eB eA eI lo hi w v0 v1 v2 base bs pr) : ST w v0 v1 v2 ⟨base, bs.map TB.core, pr⟩ := by
  obtain ⟨s1, s2, a, b, c, h1, h2, h3, h4, h5, h6, h7⟩ := h
  exact ⟨h1.sl Ent.enc_length, h3.sb, h6.sl encI_length⟩
theorem OT.st' {eE eB eA eI lo hi : Nat} {w : World} {v0 v1 v2 : Value} {bs : List TB} {t : Tree} (h : OT eE eB eA eI lo hi w v0 v1 v2 t.base bs t.pr) (hb : bs.map TB.core = t.bs) : ST w v0 v1 v2 t := by
  have := h.st
  rw [hb] at this
  exact this
end Go.Proofs.Ytnknamddonjnjaa
namespace Go.Proofs.Ytnknamddonjnjaa
open Go Go.RowKit Go.Proofs

theorem opAt {l : List Oper} {i : Nat} {o : Oper} (h : l[i]? = some o) : l.toArray[i]? = some o := by
  rw [List.getElem?_toArray]
  exact h
end Go.Proofs.Ytnknamddonjnjaa
