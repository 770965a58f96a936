/- Walks: the reader that draws: pick, odd, keys, values, actions. -/
import Derived.Test.YteiemjebdhmnaaaGSoTop01
import Derived.Test.YteiemjebdhmnaaaGSoTop00
import Derived.Test.YteiemjebdhmnaaaGSoTop05
set_option linter.unusedSimpArgs false
set_option linter.unusedVariables false
namespace Go.Proofs.Yteiemjebdhmnaaa
open Go Go.RowKit Go.Proofs

theorem setCell_sz (w : World) (a : Addr) (u : Value) : (w.setCell a u).heap.size = w.heap.size := by simp [World.setCell]
/-- All blocks but rb are as they were. -/
structure ExtR (rb : Nat) (W : World) where
  val : World
  grown : W.grownBy val (some rb)
class NeS (n rb : Nat) : Prop where
  ne : n ≠ rb
theorem grownBy_refl (W : World) (r : Option Nat) : W.grownBy W r := ⟨rfl, rfl, rfl, Nat.le_refl _, fun _ _ _ => rfl⟩
theorem ExtR.block {rb : Nat} {W : World} (z : ExtR rb W) {n : Nat} (h : n < W.heap.size) (hn : n ≠ rb) : z.val.heap[n]? = W.heap[n]? := z.grown.block n h (by intro e; cases e; exact hn rfl)
theorem ExtR.cell {rb : Nat} {W : World} (z : ExtR rb W) (n i : Nat) [h : LtS n W] [hn : NeS n rb] : z.val.cell? ⟨n, i, none⟩ = W.cell? ⟨n, i, none⟩ := by
  simp only [World.cell?, z.block h.lt hn.ne]
theorem ExtR.frozen {rb : Nat} {W : World} (z : ExtR rb W) (n i : Nat) [h : LtS n W] [hn : NeS n rb] : z.val.frozen? ⟨n, i, none⟩ = W.frozen? ⟨n, i, none⟩ := by
  simp only [World.frozen?, z.block h.lt hn.ne]
attribute [go_sem] ExtR.cell ExtR.frozen
instance LtS.upR (n : Nat) {rb : Nat} (w : World) (z : ExtR rb w) [h : LtS n w] : LtS n z.val := ⟨Nat.lt_of_lt_of_le h.lt z.grown.size⟩
instance NeS.new (W : World) (rb : Nat) [h : LtS rb W] : NeS W.heap.size rb := ⟨Nat.ne_of_gt h.lt⟩
instance NeS.new1 (W : World) (rb k : Nat) [h : LtS rb W] : NeS (W.heap.size + k) rb := ⟨by have := h.lt; omega⟩
theorem Ext.upR {w0 W : World} {rb : Nat} (h : Ext w0 W) (hrb : w0.heap.size ≤ rb) (z : ExtR rb W) : Ext w0 z.val := h.grown z.grown fun k hk => by cases hk; exact hrb
theorem ExtR.of {rb : Nat} {w w' : World} (h : w.grownBy w' (some rb)) : ∃ z : ExtR rb w, w' = z.val := ⟨⟨w', h⟩, rfl⟩
theorem ExtR.setR (rb : Nat) (W : World) (i : Nat) (u : Value) : W.grownBy (W.setCell ⟨rb, i, none⟩ u) (some rb) := grownBy_set W ⟨rb, i, none⟩ u
theorem grownBy_trans {a b c : World} {r : Option Nat} (h : a.grownBy b r) (k : b.grownBy c r) : a.grownBy c r :=
  ⟨k.os.trans h.os, k.tape.trans h.tape, k.output.trans h.output, Nat.le_trans h.size k.size, fun n hn hne => (k.block n (Nat.lt_of_lt_of_le hn h.size) hne).trans (h.block n hn hne)⟩
theorem grownBy_ext {a b : World} {r : Option Nat} (h : Ext a b) : a.grownBy b r := ⟨h.1, h.2, h.3, h.size, fun n hn _ => h.block hn⟩
theorem GB.upR {a b : World} {rb : Nat} (h : a.grownBy b (some rb)) (z : ExtR rb b) : a.grownBy z.val (some rb) := grownBy_trans h z.grown
theorem GB.up {a b : World} {r : Option Nat} (h : a.grownBy b r) (z : Extd b) : a.grownBy z.val r := grownBy_trans h (grownBy_ext z.ext)
theorem GB.alloc {a b : World} {r : Option Nat} (h : a.grownBy b r) (o : Obj) : a.grownBy (b.alloc o) r := grownBy_trans h (grownBy_ext ((Ext.refl b).alloc o))
theorem GB.drew {a b : World} {r : Option Nat} (h : a.grownBy b r) : a.grownBy b.drew r := grownBy_trans h (grownBy_ext (Ext.refl b).drew)
theorem GB.setNew {a b : World} {r : Option Nat} (h : a.grownBy b r) {g : Nat} (hg : a.heap.size ≤ g) (i : Nat) (u : Value) : a.grownBy (b.setCell ⟨g, i, none⟩ u) r :=
  ⟨h.os, h.tape, h.output, by rw [setCell_sz]; exact h.size, fun n hn hne => (Below.heap_setCell _ _ _ _ (show n ≠ g by omega)).trans (h.block n hn hne)⟩
instance LeS.upR (w : World) {rb : Nat} (W : World) (z : ExtR rb W) [h : LeS w W] : LeS w z.val := ⟨Nat.le_trans h.le z.grown.size⟩
def encU (n : Int) : List Value := [.int .u8 n]
theorem encU_length (n : Int) : (encU n).length = 1 := rfl
/-- The reader in block rb: bytes that were there at w0, and how many were read, at most lim. -/
structure Rd (w0 w : World) (rb : Nat) (lim : Int) : Prop where
  ext : Ext w0 w
  old : w0.heap.size ≤ rb
  cells : ∃ (vb : Value) (bs : List Int) (p : Int) (ty : TypeId), w.heap[rb]? = some (.cells #[vb, .int .i64 p] ty (0, 0)) ∧ SL (RF encU) 1 w0 vb bs ∧ bs.length ≤ 2000 ∧ (∀ b ∈ bs, 0 ≤ b ∧ b ≤ 255) ∧ 0 ≤ p ∧ p ≤ lim
theorem Rd.lt {w0 w : World} {rb : Nat} {lim : Int} (h : Rd w0 w rb lim) : rb < w.heap.size := by
  obtain ⟨_, _, _, _, h1, _⟩ := h.cells
  exact (Array.getElem?_eq_some_iff.1 h1).1
theorem Rd.up {w0 w w' : World} {rb : Nat} {lim : Int} (h : Rd w0 w rb lim) (hE : Ext w w') : Rd w0 w' rb lim := by
  obtain ⟨h1, h2, vb, bs, p, ty, hc, hs⟩ := h
  exact ⟨h1.trans hE, h2, vb, bs, p, ty, (hE.block (Array.getElem?_eq_some_iff.1 hc).1).trans hc, hs⟩
theorem Rd.mono {w0 w : World} {rb : Nat} {a b : Int} (h : Rd w0 w rb a) (hab : a ≤ b) : Rd w0 w rb b := by
  obtain ⟨h1, h2, vb, bs, p, ty, hc, hs, hl, hb, hp0, hp1⟩ := h
  exact ⟨h1, h2, vb, bs, p, ty, hc, hs, hl, hb, hp0, by omega⟩
theorem Rd.set {w0 w : World} {rb : Nat} {lim : Int} (h : Rd w0 w rb lim) {g : Nat} (i : Nat) (u : Value) (hg : g ≠ rb) (hg0 : w0.heap.size ≤ g) : Rd w0 (w.setCell ⟨g, i, none⟩ u) rb lim := by
  obtain ⟨h1, h2, vb, bs, p, ty, hc, hs⟩ := h
  exact ⟨h1.setCell hg0 u, h2, vb, bs, p, ty, (Below.heap_setCell _ _ _ _ (Ne.symm hg)).trans hc, hs⟩
theorem Rd.step {w0 w : World} {rb : Nat} {lim p : Int} {vb : Value} {bs : List Int} {ty : TypeId} (hE : Ext w0 w) (hold : w0.heap.size ≤ rb) (hc : w.heap[rb]? = some (.cells #[vb, .int .i64 p] ty (0, 0))) (hs : SL (RF encU) 1 w0 vb bs) (hl : bs.length ≤ 2000) (hb : ∀ b ∈ bs, 0 ≤ b ∧ b ≤ 255) (h0 : 0 ≤ p) (h1 : p ≤ lim) : Rd w0 (w.setCell ⟨rb, 1, none⟩ (.int .i64 (p + 1))) rb (lim + 1) := by
  refine ⟨hE.setCell hold _, hold, vb, bs, p + 1, ty, ?_, hs, hl, hb, by omega, by omega⟩
  rw [heap_setCell_same w rb 1 _ ty _ hc]
  rfl
theorem xor_nonneg {a b : Int} (a0 : 0 ≤ a) (a1 : a < 9223372036854775808) (b0 : 0 ≤ b) (b1 : b < 9223372036854775808) : 0 ≤ bits .xor .i64 a b := by
  have := i64_xor_nat a.toNat b.toNat (by omega) (by omega)
  rw [show ((a.toNat : Nat) : Int) = a from by omega, show ((b.toNat : Nat) : Int) = b from by omega] at this
  rw [this]; omega
theorem Rd.alloc {w0 w : World} {rb : Nat} {lim : Int} (h : Rd w0 w rb lim) (o : Obj) : Rd w0 (w.alloc o) rb lim := h.up ((Ext.refl w).alloc o)
theorem Rd.grown {w0 w w' : World} {rb : Nat} {lim : Int} (h : Rd w0 w rb lim) (hE : Ext w0 w') (hb : w'.heap[rb]? = w.heap[rb]?) : Rd w0 w' rb lim := by
  obtain ⟨h1, h2, vb, bs, p, ty, hc, hs⟩ := h
  exact ⟨hE, h2, vb, bs, p, ty, hb.trans hc, hs⟩
theorem quo_pos {a b : Int} (ha : 0 ≤ a) (hb : 0 < b) : 0 ≤ a.tdiv b ∧ a.tdiv b ≤ a := by
  rw [Int.tdiv_eq_ediv_of_nonneg ha]
  exact ⟨Int.ediv_nonneg ha (by omega), Int.ediv_le_self _ ha⟩
theorem rem_pos {a b : Int} (ha : 0 ≤ a) (hb : 0 < b) : 0 ≤ a.tmod b ∧ a.tmod b < b := by
  rw [Int.tmod_eq_emod_of_nonneg ha]
  exact ⟨Int.emod_nonneg a (by omega), Int.emod_lt_of_pos a hb⟩
set_option maxRecDepth 100000 in
set_option maxHeartbeats 2000000 in
theorem pick_any (w0 w : World) (rb : Nat) (lim n : Int) (h : Rd w0 w rb lim) (hl : lim ≤ 1000000) (hn0 : 0 ≤ n) (hn1 : n ≤ 1000000000) :
    Calls Try.prog 55 #[.pointer (some ⟨rb, 0, none⟩), .int .i64 n] w fun e w' => ∃ k : Int, e = .returned (.int .i64 k) ∧ 0 ≤ k ∧ (1 ≤ n → k < n) ∧ (n < 1 → k = 0) ∧ (∃ z : ExtR rb w, w' = z.val) ∧ Rd w0 w' rb (lim + 1) := by
  have hlt := h.lt
  obtain ⟨hE, hold, vb, bs, p, ty, hc, hs, hbl, hbb, hp0, hp1⟩ := h
  obtain ⟨pb, cb, rfl, _, hcc⟩ := hs.open
  have c0 : w.cell? ⟨rb, 0, none⟩ = some (.slice pb bs.length cb) := cell_of_row w rb 0 _ _ _ hc
  have c1 : w.cell? ⟨rb, 1, none⟩ = some (.int .i64 p) := cell_of_row w rb 1 _ _ _ hc
  have f1 : w.frozen? ⟨rb, 1, none⟩ = false := frozen_of_row w rb 1 _ _ hc
  have hL : LtS rb w := ⟨hlt⟩
  have Hs := Lib.hid hs; have Hc := Lib.hid hc; have HE := Lib.hid hE; have Hold := Lib.hid hold; have Hcc := Lib.hid hcc; have Hbb := Lib.hid hbb
  clear hs hc hE hold hcc hbb
  by_cases hz : n < 1
  · go_enter Try.func55, Try.ntmps55
    go_wp2_with fail
    go_ret
    exact ⟨0, rfl, by omega, by omega, by omega, ⟨⟨_, ExtR.setR rb w 1 _⟩, rfl⟩, Rd.step HE.out Hold.out Hc.out Hs.out hbl Hbb.out hp0 hp1⟩
  by_cases hb : bs.length = 0
  · have hb' : ((bs.length : Int) == 0) = true := by simp [hb]
    have Hb := Lib.hid hb; clear hb
    go_enter Try.func55, Try.ntmps55
    go_wp2_with fail
    go_ret
    exact ⟨0, rfl, by omega, by omega, by omega, ⟨⟨_, ExtR.setR rb w 1 _⟩, rfl⟩, Rd.step HE.out Hold.out Hc.out Hs.out hbl Hbb.out hp0 hp1⟩
  have hb' : ((bs.length : Int) == 0) = false := by rw [beq_eq_false_iff_ne]; omega
  by_cases hin : p < bs.length
  · obtain ⟨x, hx⟩ := getElem?_some_of_lt (l := bs) (k := p.toNat) (by omega)
    obtain ⟨b, off, rfl, hbl2, hx2⟩ := Hcc.out p.toNat x hx
    have d0 : w0.cell? ⟨b, off + p.toNat, none⟩ = some (.int .u8 x) := by have := hx2 0 _ rfl; simpa using this
    have hbr : b ≠ rb := by have := hbl2.lt; have := Hold.out; omega
    have d1 : w.cell? ⟨b, off + p.toNat, none⟩ = some (.int .u8 x) := HE.out.some d0
    obtain ⟨x0, x1⟩ := Hbb.out x (List.mem_of_getElem? hx)
    obtain ⟨r0, r1⟩ := rem_pos (a := x) (b := n) x0 (by omega)
    clear hx hx2 d0 r0 r1
    have e0 := Int.emod_nonneg x (show n ≠ 0 by omega)
    have e1 := Int.emod_lt_of_pos x (show 0 < n by omega)
    go_enter Try.func55, Try.ntmps55
    go_wp2_with fail
    go_ret
    exact ⟨x % n, rfl, e0, by first | exact e1 | exact fun _ => e1, fun h => by omega, ⟨⟨_, ExtR.setR rb w 1 _⟩, rfl⟩, Rd.step HE.out Hold.out Hc.out Hs.out hbl Hbb.out hp0 hp1⟩
  · have hbp : 0 < bs.length := by omega
    have hbp' : (0 : Int) < (bs.length : Int) := by omega
    obtain ⟨i0, i1⟩ : 0 ≤ p % (bs.length : Int) ∧ p % (bs.length : Int) < bs.length := ⟨Int.emod_nonneg p (by omega), Int.emod_lt_of_pos p hbp'⟩
    obtain ⟨j0, j1⟩ : 0 ≤ (p * 7 + 3) % (bs.length : Int) ∧ (p * 7 + 3) % (bs.length : Int) < bs.length := ⟨Int.emod_nonneg _ (by omega), Int.emod_lt_of_pos _ hbp'⟩
    obtain ⟨x, hx⟩ := getElem?_some_of_lt (l := bs) (k := (p % (bs.length : Int)).toNat) (by omega)
    obtain ⟨y, hy⟩ := getElem?_some_of_lt (l := bs) (k := ((p * 7 + 3) % (bs.length : Int)).toNat) (by omega)
    obtain ⟨b, off, rfl, hbl2, hx2⟩ := Hcc.out _ x hx
    obtain ⟨b', off', eb, _, hy2⟩ := Hcc.out _ y hy
    simp only [Option.some.injEq, Addr.mk.injEq, and_true] at eb
    obtain ⟨rfl, rfl⟩ := eb
    have d0 : w0.cell? ⟨b, off + (p % (bs.length : Int)).toNat, none⟩ = some (.int .u8 x) := by have := hx2 0 _ rfl; simpa using this
    have g0 : w0.cell? ⟨b, off + ((p * 7 + 3) % (bs.length : Int)).toNat, none⟩ = some (.int .u8 y) := by have := hy2 0 _ rfl; simpa using this
    have hbr : b ≠ rb := by have := hbl2.lt; have := Hold.out; omega
    have d1 : w.cell? ⟨b, off + (p % (bs.length : Int)).toNat, none⟩ = some (.int .u8 x) := HE.out.some d0
    have g1 : w.cell? ⟨b, off + ((p * 7 + 3) % (bs.length : Int)).toNat, none⟩ = some (.int .u8 y) := HE.out.some g0
    obtain ⟨x0, x1⟩ := Hbb.out x (List.mem_of_getElem? hx)
    obtain ⟨y0, y1⟩ := Hbb.out y (List.mem_of_getElem? hy)
    have hLb : LtS b w := LtS.of_some d1
    have q0 : 0 ≤ p / (bs.length : Int) := Int.ediv_nonneg hp0 (by omega)
    have q1 : p / (bs.length : Int) ≤ 1000000 := Int.le_trans (Int.ediv_le_self _ hp0) (by omega)
    clear hx hx2 d0 hy hy2 g0
    go_enter Try.func55, Try.ntmps55
    go_wp2_with fail
    (refine wp_region_up (by kernel_rfl) (by kernel_rfl) ?_; (repeat (go_big_quiet_step (fail))); refine wpQuiet_nil ?_; intro _ hw'; obtain ⟨zq, hw''⟩ := hw'; subst hw'')
    go_wp2_with fail
    go_ret
    refine ⟨_, rfl, (rem_pos (xor_nonneg (by omega) (by omega) (by first | omega | exact (quo_pos (by omega) (by omega)).1) (by first | omega | exact Int.lt_of_le_of_lt (quo_pos (by omega) (by omega)).2 (by omega))) (by omega)).1, fun _ => (rem_pos (xor_nonneg (by omega) (by omega) (by first | omega | exact (quo_pos (by omega) (by omega)).1) (by first | omega | exact Int.lt_of_le_of_lt (quo_pos (by omega) (by omega)).2 (by omega))) (by omega)).2, fun h => by omega, ⟨⟨_, grownBy_trans (ExtR.setR rb w 1 _) (grownBy_ext zq.ext)⟩, rfl⟩, ?_⟩
    exact (Rd.step HE.out Hold.out Hc.out Hs.out hbl Hbb.out hp0 hp1).up zq.ext
set_option maxRecDepth 100000 in
theorem odd_any (w0 w : World) (rb : Nat) (lim n : Int) (h : Rd w0 w rb lim) (hl : lim ≤ 1000000) (hn0 : 0 ≤ n) (hn1 : n ≤ 1000000000) :
    Calls Try.prog 54 #[.pointer (some ⟨rb, 0, none⟩), .int .i64 n] w fun e w' => ∃ b : Bool, e = .returned (.bool b) ∧ (n = 0 → b = false) ∧ (∃ z : ExtR rb w, w' = z.val) ∧ Rd w0 w' rb (lim + 1) := by
  have H := Lib.hid h; clear h
  by_cases hz : 0 < n
  · go_enter Try.func54, Try.ntmps54
    go_wp2_with fail
    refine (pick_any w0 _ rb lim n H.out hl hn0 hn1).mono ?_; rintro e w' ⟨k, rfl, k0, k1, k2, ⟨z, rfl⟩, hr⟩
    go_wp2_with fail
    go_ret
    exact ⟨_, rfl, fun e => by omega, ⟨z, rfl⟩, hr⟩
  · go_enter Try.func54, Try.ntmps54
    go_wp2_with fail
    go_ret
    first | exact ⟨false, rfl, fun _ => rfl, ⟨⟨w, grownBy_refl _ _⟩, rfl⟩, H.out.mono (by omega)⟩ | exact .inl ⟨rfl, ⟨⟨w, grownBy_refl _ _⟩, rfl⟩, H.out.mono (by omega)⟩
set_option maxRecDepth 100000 in
set_option maxHeartbeats 1000000 in
theorem key_any (w0 w : World) (rb : Nat) (lim : Int) (h : Rd w0 w rb lim) (hl : lim ≤ 900000) :
    Calls Try.prog 84 #[.pointer (some ⟨rb, 0, none⟩)] w fun e w' => ∃ k : Int, e = .returned (.int .i64 k) ∧ 0 ≤ k ∧ k ≤ 31 ∧ (∃ z : ExtR rb w, w' = z.val) ∧ Rd w0 w' rb (lim + 3) := by
  have H := Lib.hid h
  have hL : LtS rb w := ⟨h.lt⟩
  clear h
  go_enter Try.func84, Try.ntmps84
  go_wp2_with fail
  refine (pick_any w0 _ rb lim 5 H.out (by omega) (by omega) (by omega)).mono ?_; rintro e w' ⟨k, rfl, k0, k1, k2, ⟨z1, rfl⟩, hr⟩
  have H1 := Lib.hid hr; clear hr
  go_wp2_with fail
  refine (pick_any w0 _ rb (lim + 1) 32 H1.out (by omega) (by omega) (by omega)).mono ?_; rintro e w' ⟨m, rfl, m0, m1, m2, ⟨z2, rfl⟩, hr⟩
  have H2 := Lib.hid hr; clear hr
  go_wp2_with fail
  refine (pick_any w0 _ rb (lim + 1 + 1) 4 (H2.out.up (by repeat (first | (with_reducible exact Ext.refl _) | (with_reducible refine Ext.up ?_ _) | (with_reducible refine Ext.alloc ?_ _) | (with_reducible refine Ext.drew ?_) | (with_reducible refine Ext.setRow ?_ (by first | exact LeS.le | exact LeS.add _ | (simp; done) | (simp; omega)) _) | (with_reducible refine Ext.setCell ?_ (by first | exact LeS.le | exact LeS.add _ | (simp; done) | (simp; omega)) _)))) (by omega) (by omega) (by omega)).mono ?_; rintro e w' ⟨q, rfl, q0, q1, q2, ⟨z3, rfl⟩, hr⟩
  have H3 := Lib.hid hr; clear hr
  have hk1 := k1 (by omega)
  have hm1 := m1 (by omega)
  have hq1 := q1 (by omega)
  clear k1 m1 q1 k2 m2 q2
  have hq : q = 0 ∨ q = 1 ∨ q = 2 ∨ q = 3 := by omega
  rcases hq with rfl | rfl | rfl | rfl
  all_goals
    go_wp2_with fail
    go_ret
    exact ⟨_, rfl, by omega, by omega, ExtR.of (by repeat (first | (with_reducible exact grownBy_refl _ _) | (with_reducible refine GB.setNew ?_ (by first | exact LeS.le | exact LeS.add _ | (simp; done) | (simp; omega)) _ _) | (with_reducible refine GB.alloc ?_ _) | (with_reducible refine GB.drew ?_) | (with_reducible refine GB.upR ?_ _) | (with_reducible refine GB.up ?_ _))), H3.out.mono (by omega)⟩
set_option maxRecDepth 100000 in
set_option maxHeartbeats 1000000 in
theorem value_any (w0 w : World) (rb : Nat) (lim : Int) (h : Rd w0 w rb lim) (hl : lim ≤ 900000) :
    Calls Try.prog 85 #[.pointer (some ⟨rb, 0, none⟩)] w fun e w' => ∃ k : Int, e = .returned (.int .i64 k) ∧ 0 ≤ k ∧ k ≤ 1000000 ∧ (∃ z : ExtR rb w, w' = z.val) ∧ Rd w0 w' rb (lim + 3) := by
  have H := Lib.hid h
  have hL : LtS rb w := ⟨h.lt⟩
  clear h
  go_enter Try.func85, Try.ntmps85
  go_wp2_with fail
  refine (pick_any w0 _ rb lim 12 H.out (by omega) (by omega) (by omega)).mono ?_; rintro e w' ⟨k, rfl, k0, k1, k2, ⟨z1, rfl⟩, hr⟩
  have H1 := Lib.hid hr; clear hr
  go_wp2_with fail
  refine (pick_any w0 _ rb (lim + 1) 256 H1.out (by omega) (by omega) (by omega)).mono ?_; rintro e w' ⟨m, rfl, m0, m1, m2, ⟨z2, rfl⟩, hr⟩
  have H2 := Lib.hid hr; clear hr
  go_wp2_with fail
  refine (pick_any w0 _ rb (lim + 1 + 1) 7 (H2.out.up (by repeat (first | (with_reducible exact Ext.refl _) | (with_reducible refine Ext.up ?_ _) | (with_reducible refine Ext.alloc ?_ _) | (with_reducible refine Ext.drew ?_) | (with_reducible refine Ext.setRow ?_ (by first | exact LeS.le | exact LeS.add _ | (simp; done) | (simp; omega)) _) | (with_reducible refine Ext.setCell ?_ (by first | exact LeS.le | exact LeS.add _ | (simp; done) | (simp; omega)) _)))) (by omega) (by omega) (by omega)).mono ?_; rintro e w' ⟨q, rfl, q0, q1, q2, ⟨z3, rfl⟩, hr⟩
  have H3 := Lib.hid hr; clear hr
  have hk1 := k1 (by omega)
  have hm1 := m1 (by omega)
  have hq1 := q1 (by omega)
  clear k1 m1 q1 k2 m2 q2
  have hq : q = 0 ∨ q = 1 ∨ q = 2 ∨ q = 3 ∨ q = 4 ∨ q = 5 ∨ q = 6 := by omega
  rcases hq with rfl | rfl | rfl | rfl | rfl | rfl | rfl
  all_goals
    go_wp2_with fail
    go_ret
    exact ⟨_, rfl, by omega, by omega, ExtR.of (by repeat (first | (with_reducible exact grownBy_refl _ _) | (with_reducible refine GB.setNew ?_ (by first | exact LeS.le | exact LeS.add _ | (simp; done) | (simp; omega)) _ _) | (with_reducible refine GB.alloc ?_ _) | (with_reducible refine GB.drew ?_) | (with_reducible refine GB.upR ?_ _) | (with_reducible refine GB.up ?_ _))), H3.out.mono (by omega)⟩
end Go.Proofs.Yteiemjebdhmnaaa
