/- Steps through a drawn region, by hand: guards and callees that answer slices. Walks: FnExactOrderFits: orders of actions. Walks: FnExactBlockSum: sums of blocks. Plain laws: the root of a store. Plain laws: trees of blocks, as lists; slices of blocks in memory. -/
import Derived.Test.YteiemjebdhmnaaaGSoTop04
import Derived.Test.YteiemjebdhmnaaaGSoTop00
import Derived.StillTailTactics
import Derived.Test.YteiemjebdhmnaaaGSoTop01
set_option linter.unusedSimpArgs false
set_option linter.unusedVariables false
namespace Go.Proofs.Yteiemjebdhmnaaa
open Go Go.RowKit Go.Proofs

section
variable {P : Program} {ops : Array Oper} {Q : Exit → Act → World → Prop} {md : Region.Mode} {S : World → Prop}
/-- A guarded operation that is passed over. -/
theorem take_skip (i d : Nat) {oi : Oper} {fuel : Nat} {listed : Array Bool} {a : Act} {w : World} (hi : ops[i]? = some oi) (hd : oi.dst = some d)
    (hs : Region.noSelect ops = true) (hf : Region.free md ops listed i = true) (hr : (Region.ready md ops listed).contains i = true)
    (hQ : ∀ c a w, Q (.panic c) (a.put oi.dst undef) w → Q (.panic c) a w) (hw : Region.wanted oi (yielded ops a.tmps) = false) (hS : S w)
    (h : wpAnyH P md ops Q S fuel (listed.setIfInBounds i true) (a.put (some d) undef) w) : wpAnyH P md ops Q S (fuel + 1) listed a w :=
  wpAnyH_take hi hs hf hr hQ (.inr ⟨hw, rfl⟩) hS (hd ▸ h)
/-- An operation that yields v. -/
theorem take_val (i d : Nat) (v : Value) {oi : Oper} {fuel : Nat} {listed : Array Bool} {a : Act} {w : World} (hi : ops[i]? = some oi) (hd : oi.dst = some d)
    (hs : Region.noSelect ops = true) (hf : Region.free md ops listed i = true) (hr : (Region.ready md ops listed).contains i = true)
    (hQ : ∀ c a w, Q (.panic c) (a.put oi.dst v) w → Q (.panic c) a w) (hw : Region.wanted oi (yielded ops a.tmps) = true) (hv : ∀ w, S w → (execOp a.eval oi).run P w = .ok (.value v) w) (hS : S w)
    (h : wpAnyH P md ops Q S fuel (listed.setIfInBounds i true) (a.put (some d) v) w) : wpAnyH P md ops Q S (fuel + 1) listed a w :=
  wpAnyH_take hi hs hf hr hQ (.inl ⟨hw, hv⟩) hS (hd ▸ h)
/-- A call, the only operation that may come up. -/
theorem take_call (i d : Nat) (f : Nat) (args : Array Value) {oi : Oper} {fuel : Nat} {listed : Array Bool} {a : Act} {w : World} (hi : ops[i]? = some oi) (hd : oi.dst = some d)
    (hr : Region.ready md ops listed = [i]) (hw : Region.wanted oi (yielded ops a.tmps) = true)
    (hv : (execOp a.eval oi).run P w = .ok (.enter f args) w)
    (hc : Calls P f args w fun e w' => ∃ v, e = .returned v ∧ S w' ∧ wpAnyH P md ops Q S fuel (listed.setIfInBounds i true) (a.put (some d) v) w') : wpAnyH P md ops Q S (fuel + 1) listed a w := by
  refine wpAnyH_all hr (by simp) ?_
  intro j hj
  rw [List.mem_singleton] at hj
  subst hj
  unfold wpOp
  simp only [hi, hw, if_true, Oper.wp, hv, Oper.upon]
  refine .inl (Calls.mono hc fun e w'' he => ?_)
  obtain ⟨v, rfl, hS, h⟩ := he
  exact ⟨hS, by rw [hd]; exact h⟩
end

theorem common_nil (a : List Int) : common a [] = false := by simp [common]
theorem nil_common (a : List Int) : common [] a = false := rfl
def wks (x : Actn) : List Int := if x.ok = true then x.wk else []
def rks (x : Actn) : List Int := if x.ok = true then x.rk else []
theorem conflict_eq (x y : Actn) : conflict x y = (common (wks x) (wks y) || (common (wks x) (rks y) || common (rks x) (wks y))) := by
  unfold conflict conf wks rks
  cases x.ok <;> cases y.ok <;> simp [common_nil, nil_common]
end Go.Proofs.Yteiemjebdhmnaaa
namespace Go.Proofs.Yteiemjebdhmnaaa
open Go Go.RowKit Go.Proofs

/-- x is among l's. -/
def hasI (l : List Int) (x : Int) : Bool := l.contains x
theorem hasI_iff {l : List Int} {x : Int} : hasI l x = true ↔ x ∈ l := by simp [hasI]
theorem hasI_not {l : List Int} {x : Int} : hasI l x = false ↔ x ∉ l := by rw [← hasI_iff]; simp
set_option maxHeartbeats 1000000 in
theorem indexI_any (l : List Int) (v : Value) (x : Int) (w : World) (h : SL (RF encI) 1 w v l) :
    Calls Try.prog 94 #[v, .int .i64 x] w fun e w' => ∃ n : Int, e = .returned (.int .i64 n) ∧ decide (0 ≤ n) = hasI l x ∧ w = w' := by
  obtain ⟨a, cap, rfl, hlen, hc⟩ := h.open
  clear h
  go_enter Try.func94, Try.ntmps94
  go_wp2_with fail
  go_loop [5, 8] (fun _ s8 => ∃ k : Nat, s8 = .int .i64 k ∧ k ≤ l.length ∧ hasI (l.take k) x = false) (fun _ s8 => l.length - (intOf s8).toNat)
  case atStart => exact ⟨0, rfl, Nat.zero_le _, rfl⟩
  case round =>
    obtain ⟨k, rfl, hk, hall⟩ := hrel
    by_cases hlt : k < l.length
    · obtain ⟨y, hyk⟩ := getElem?_some_of_lt hlt
      obtain ⟨b, off, rfl, hb, hcc⟩ := hc k y hyk
      have c0 : w.cell? ⟨b, off + k, none⟩ = some (.int .i64 y) := by have := hcc 0 _ rfl; simpa using this
      have Hy := Lib.hid hyk; have Hall := Lib.hid hall
      clear hcc hc hyk hall
      rcases eq_cases x y with ⟨h1, h1'⟩ | ⟨h1, h1'⟩
      · have H1 := Lib.hid h1; clear h1
        go_wp2_with fail
        go_ret
        refine ⟨_, rfl, ?_, rfl⟩
        have : x ∈ l := by rw [H1.out]; exact List.mem_of_getElem? Hy.out
        rw [hasI_iff.2 this]; simp
      · have H1 := Lib.hid h1'
        go_wp2_with fail
        go_round
        case rel => exact ⟨k + 1, by go_num, by omega, contains_next Hy.out Hall.out H1.out⟩
        case measure => simp [intOf]; omega
    · go_wp2_with fail
      go_ret
      obtain rfl : k = l.length := by omega
      rw [List.take_length] at hall
      exact ⟨_, rfl, by rw [hall]; rfl, rfl⟩
theorem containsI_any (l : List Int) (v : Value) (x : Int) (w : World) (h : SL (RF encI) 1 w v l) :
    Calls Try.prog 63 #[v, .int .i64 x] w fun e w' => e = .returned (.bool (hasI l x)) ∧ w = w' := by
  have H := Lib.hid h; clear h
  go_enter Try.func63, Try.ntmps63
  go_wp2_with (go_at_call 94; refine (indexI_any l _ _ _ H.out).mono ?_; rintro e w' ⟨n, rfl, hn, rfl⟩)
  go_ret
  exact ⟨rfl, rfl⟩
def cfAt (l : List Actn) (m n : Int) : Bool := match l[m.toNat]?, l[n.toNat]? with
  | some x, some y => conf x y
  | _, _ => false
def pairOk (l : List Actn) (o : List Int) (k j : Nat) : Bool := match o[j]?, o[k]? with
  | some m, some n => decide (m ≠ n) && !(decide (n < m) && cfAt l m n)
  | _, _ => true
def ordAt (l : List Actn) (o : List Int) (k : Nat) : Bool := match o[k]? with
  | some n => inR n 0 ((l.length : Int) - 1) && upTo (pairOk l o k) k
  | none => true
def ordOk (l : List Actn) (o : List Int) : Bool := actsOk l && (decide (o.length = l.length) && upTo (ordAt l o) o.length)
theorem pairOk_eq {l : List Actn} {o : List Int} {k j : Nat} {m n : Int} (hm : o[j]? = some m) (hn : o[k]? = some n) : pairOk l o k j = (decide (m ≠ n) && !(decide (n < m) && cfAt l m n)) := by simp [pairOk, hm, hn]
theorem cfAt_eq {l : List Actn} {m n : Int} {x y : Actn} (hx : l[m.toNat]? = some x) (hy : l[n.toNat]? = some y) : cfAt l m n = conf x y := by simp [cfAt, hx, hy]
theorem ordAt_eq {l : List Actn} {o : List Int} {k : Nat} {n : Int} (hn : o[k]? = some n) : ordAt l o k = (inR n 0 ((l.length : Int) - 1) && upTo (pairOk l o k) k) := by simp [ordAt, hn]
theorem ordAt_in {l : List Actn} {o : List Int} {k j : Nat} {m : Int} (h : upTo (ordAt l o) k = true) (hj : j < k) (hm : o[j]? = some m) : 0 ≤ m ∧ m < l.length := by
  have := upTo_iff.1 h j hj
  rw [ordAt_eq hm, Bool.and_eq_true, inR_iff] at this
  omega
theorem pair_same {l : List Actn} {o : List Int} {k : Nat} {n : Int} (hn : o[k]? = some n) (h : hasI (o.take k) n = true) : upTo (pairOk l o k) k = false := by
  have hm : n ∈ o.take k := hasI_iff.1 h
  obtain ⟨j, hj⟩ := List.getElem?_of_mem hm
  have hjk : j < k := by have := (List.getElem?_eq_some_iff.1 hj).1; simp at this; omega
  rw [List.getElem?_take_of_lt hjk] at hj
  exact upTo_false hjk (by rw [pairOk_eq hj hn]; simp)
theorem ne_of_contains {o : List Int} {k j : Nat} {m n : Int} (h : hasI (o.take k) n = false) (hj : j < k) (hm : o[j]? = some m) : m ≠ n := by
  rintro rfl
  have : m ∈ o.take k := List.mem_of_getElem? (i := j) (by rw [List.getElem?_take_of_lt hj]; exact hm)
  exact hasI_not.1 h this
theorem actsOk_at {l : List Actn} (h : actsOk l = true) {i : Nat} {x : Actn} (hx : l[i]? = some x) : x.ok = true := by
  simp only [actsOk, Bool.and_eq_true, List.all_eq_true] at h
  exact h.2 x (List.mem_of_getElem? hx)
theorem actsOk_len {l : List Actn} (h : actsOk l = true) : l.length ≤ 10 := by
  simp only [actsOk, Bool.and_eq_true, decide_eq_true_eq] at h
  omega
theorem acell {w : World} {l : List Actn} {a : Option Addr} (hc : ∀ (k : Nat) x, l[k]? = some x → ∃ b off, a = some ⟨b, off, none⟩ ∧ LtS b w ∧ ∀ j u, (Actn.enc x)[j]? = some u → w.cell? ⟨b, off + k * 4 + j, none⟩ = some u) {b off : Nat} (ha : a = some ⟨b, off, none⟩) {k : Nat} {x : Actn} (hx : l[k]? = some x) :
    w.cell? ⟨b, off + k * 4, none⟩ = some (.int .i64 x.kind) ∧ w.cell? ⟨b, off + k * 4 + 1, none⟩ = some (.int .i64 x.src) ∧ w.cell? ⟨b, off + k * 4 + 2, none⟩ = some (.int .i64 x.dst) ∧ w.cell? ⟨b, off + k * 4 + 3, none⟩ = some (.int .i64 x.amt) := by
  obtain ⟨b', off', e, _, hcc⟩ := hc k x hx
  rw [ha] at e
  simp only [Option.some.injEq, Addr.mk.injEq, and_true] at e
  obtain ⟨rfl, rfl⟩ := e
  exact ⟨hcc 0 _ rfl, hcc 1 _ rfl, hcc 2 _ rfl, hcc 3 _ rfl⟩
end Go.Proofs.Yteiemjebdhmnaaa
namespace Go.Proofs.Yteiemjebdhmnaaa
open Go Go.RowKit Go.Proofs

def Blk.head (b : Blk) (n : Nat) : List Int := [b.bf, b.ht, b.vw, (n : Int)]
def Blk.nums (b : Blk) (l : List Actn) : List Int := (b.head l.length ++ aNums l) ++ [b.rt, b.ef]
theorem Blk.nums_summed {b : Blk} {l : List Actn} (h : b.okL l = true) : summed (b.nums l) = true := by
  simp only [Blk.okL, Bool.and_eq_true, inR_iff] at h
  obtain ⟨h1, h2, h3, h4, h5, h6⟩ := h
  have hl := actsOk_len h6
  refine summed_append (summed_append (summed_iff.2 ?_) (aNums_summed fun x hx => ?_)) (summed_iff.2 ?_)
  · intro n hn; simp [Blk.head] at hn; omega
  · obtain ⟨i, hi⟩ := List.getElem?_of_mem hx; exact actsOk_at h6 hi
  · intro n hn; simp at hn; omega
def bsum (b : Blk) (l : List Actn) : Int := if b.okL l = true then sumL 22 (b.nums l) else -1
theorem bsum_no {b : Blk} {l : List Actn} (h : b.okL l = false) : bsum b l = -1 := by unfold bsum; rw [h]; rfl
theorem bsum_yes {b : Blk} {l : List Actn} (h : b.okL l = true) : bsum b l = sumL 22 (b.nums l) := by unfold bsum; rw [h]; rfl
theorem Blk.okL_acts {b : Blk} {l : List Actn} (h : b.okL l = true) : actsOk l = true := by
  simp only [Blk.okL, Bool.and_eq_true] at h; exact h.2.2.2.2.2
set_option maxRecDepth 100000 in
set_option maxHeartbeats 2000000 in
theorem iBlockSum_any (b : Blk) (l : List Actn) (v : Value) (w : World) (h : SL (RF Actn.enc) 4 w v l) :
    Calls Try.prog 26 #[.agg #[.int .i64 b.bf, .int .i64 b.ht, .int .i64 b.vw, v, .int .i64 b.rt, .int .i64 b.ef]] w fun e w' => e = .returned (.int .i64 (bsum b l)) ∧ Up w w' := by
  have hs := h
  obtain ⟨p, cap, rfl, hlen, hc⟩ := h.open
  have Hs := Lib.hid hs; clear h hs
  rcases hok : b.okL l with _ | _
  · rw [bsum_no hok]
    have kz := fun w h => iBlockValid_any b l (.slice p l.length cap) w h
    rw [hok] at kz
    go_enter Try.func26, Try.ntmps26
    go_wp2_with (go_at_call 49; refine (kz _ (Hs.out.up (by repeat (first | exact Ext.refl _ | refine Ext.up ?_ _ | refine Ext.alloc ?_ _ | refine Ext.drew ?_ | refine Ext.setRow ?_ (by first | (dsimp only; omega) | exact LeS.le | exact LeS.add _ | (simp; done) | (simp; omega)) _ | refine Ext.setCell ?_ (by first | (dsimp only; omega) | exact LeS.le | exact LeS.add _ | (simp; done) | (simp; omega)) _)))).mono ?_; rintro e w' ⟨rfl, z0, rfl⟩)
    go_ret
    exact ⟨rfl, (.of (by repeat (first | exact Ext.refl _ | refine Ext.up ?_ _ | refine Ext.alloc ?_ _ | refine Ext.drew ?_ | refine Ext.setRow ?_ (by first | (dsimp only; omega) | exact LeS.le | exact LeS.add _ | (simp; done) | (simp; omega)) _ | refine Ext.setCell ?_ (by first | (dsimp only; omega) | exact LeS.le | exact LeS.add _ | (simp; done) | (simp; omega)) _)))⟩
  have hl10 := actsOk_len (Blk.okL_acts hok)
  have Hsum := Lib.hid (Blk.nums_summed hok)
  have Hfin := Lib.hid ((bsum_yes hok).trans (sumOf_yes (tag := 5) (by decide) (by decide) (Blk.nums_summed hok)).symm)
  have kz := fun w h => iBlockValid_any b l (.slice p l.length cap) w h
  rw [hok] at kz
  have Hok := Lib.hid hok; clear hok
  go_enter Try.func26, Try.ntmps26
  go_wp2_with (go_at_call 49; refine (kz _ (Hs.out.up (by repeat (first | exact Ext.refl _ | refine Ext.up ?_ _ | refine Ext.alloc ?_ _ | refine Ext.drew ?_ | refine Ext.setRow ?_ (by first | (dsimp only; omega) | exact LeS.le | exact LeS.add _ | (simp; done) | (simp; omega)) _ | refine Ext.setCell ?_ (by first | (dsimp only; omega) | exact LeS.le | exact LeS.add _ | (simp; done) | (simp; omega)) _)))).mono ?_; rintro e w' ⟨rfl, z0, rfl⟩)
  go_loopw [3, 5, 22] (fun s3 _ s22 wr => ∃ k : Nat, s22 = .int .i64 k ∧ k ≤ l.length ∧ Up (w.alloc (.cells #[.int .i64 b.bf, .int .i64 b.ht, .int .i64 b.vw, .slice p l.length cap, .int .i64 b.rt, .int .i64 b.ef] 39)) wr ∧ Own encI 3 1 (w.alloc (.cells #[.int .i64 b.bf, .int .i64 b.ht, .int .i64 b.vw, .slice p l.length cap, .int .i64 b.rt, .int .i64 b.ef] 39)).heap.size wr s3 (b.head l.length ++ aNums (l.take k))) (fun _ _ s22 _ => l.length - (intOf s22).toNat)
  case atStart => exact ⟨0, rfl, Nat.zero_le _, (.of (by repeat (first | exact Ext.refl _ | refine Ext.up ?_ _ | refine Ext.alloc ?_ _ | refine Ext.drew ?_ | refine Ext.setRow ?_ (by first | (dsimp only; omega) | exact LeS.le | exact LeS.add _ | (simp; done) | (simp; omega)) _ | refine Ext.setCell ?_ (by first | (dsimp only; omega) | exact LeS.le | exact LeS.add _ | (simp; done) | (simp; omega)) _))), Own.lit rfl LeS.le (by simp [Blk.head, aNums]) (by simp [Blk.head, aNums, encI]) encI_length (by simp [Blk.head, aNums])⟩
  case round =>
    obtain ⟨k, rfl, hk, ⟨z, rfl⟩, hown⟩ := hrel
    by_cases hlt : k < l.length
    · obtain ⟨x, hxk⟩ := getElem?_some_of_lt hlt
      obtain ⟨g, off, hp, hb, _⟩ := hc k x hxk
      obtain ⟨c0, c1, c2, c3⟩ := acell hc hp hxk
      subst hp
      have Hx := Lib.hid (aNums_snoc hxk); have Hown := Lib.hid hown
      have hle : (b.head l.length ++ aNums (l.take k)).length ≤ 4 + 4 * k := by rw [List.length_append, aNums_length, List.length_take]; simp [Blk.head]; omega
      have Hle := Lib.hid hle
      clear hc hxk hown hle
      go_wp2_with (at_builtin; refine wpList_pushL fI rfl (.tmp 26) (.tmp 35) rfl encI encI_length _ [x.kind, x.src, x.dst, x.amt] (b.head l.length ++ aNums (l.take k)) rfl (Hown.out.up (by repeat (first | exact Ext.refl _ | refine Ext.up ?_ _ | refine Ext.alloc ?_ _ | refine Ext.drew ?_ | refine Ext.setRow ?_ (by first | (dsimp only; omega) | exact LeS.le | exact LeS.add _ | (simp; done) | (simp; omega)) _ | refine Ext.setCell ?_ (by first | (dsimp only; omega) | exact LeS.le | exact LeS.add _ | (simp; done) | (simp; omega)) _))) (by repeat (first | exact Ext.refl _ | refine Ext.up ?_ _ | refine Ext.alloc ?_ _ | refine Ext.drew ?_ | refine Ext.setRow ?_ (by first | (dsimp only; omega) | exact LeS.le | exact LeS.add _ | (simp; done) | (simp; omega)) _ | refine Ext.setCell ?_ (by first | (dsimp only; omega) | exact LeS.le | exact LeS.add _ | (simp; done) | (simp; omega)) _)) rfl rfl (by go_simp) rfl (oneIs _) (by have := Hle.out; simp at this ⊢; omega) (by have := Hle.out; simp at this ⊢; omega) ?_; intro v1 z1 hown1)
      have hown2 := Lib.hid hown1; clear hown1
      go_wp2_with fail
      go_roundw
      case rel => exact ⟨k + 1, by go_num, by omega, (.of (by repeat (first | exact Ext.refl _ | refine Ext.up ?_ _ | refine Ext.alloc ?_ _ | refine Ext.drew ?_ | refine Ext.setRow ?_ (by first | (dsimp only; omega) | exact LeS.le | exact LeS.add _ | (simp; done) | (simp; omega)) _ | refine Ext.setCell ?_ (by first | (dsimp only; omega) | exact LeS.le | exact LeS.add _ | (simp; done) | (simp; omega)) _))), by rw [Hx.out, ← List.append_assoc]; exact hown2.out⟩
      case measure => simp [intOf]; omega
    · obtain rfl : k = l.length := by omega
      rw [List.take_length] at hown
      have Hown := Lib.hid hown
      have hle : (b.head l.length ++ aNums l).length ≤ 4 + 4 * 10 := by rw [List.length_append, aNums_length]; simp [Blk.head]; omega
      have Hle := Lib.hid hle
      clear hc hown hle
      go_wp2_with (at_builtin; refine wpList_pushL fI rfl (.tmp 38) (.tmp 43) rfl encI encI_length _ [b.rt, b.ef] (b.head l.length ++ aNums l) rfl (Hown.out.up (by repeat (first | exact Ext.refl _ | refine Ext.up ?_ _ | refine Ext.alloc ?_ _ | refine Ext.drew ?_ | refine Ext.setRow ?_ (by first | (dsimp only; omega) | exact LeS.le | exact LeS.add _ | (simp; done) | (simp; omega)) _ | refine Ext.setCell ?_ (by first | (dsimp only; omega) | exact LeS.le | exact LeS.add _ | (simp; done) | (simp; omega)) _))) (by repeat (first | exact Ext.refl _ | refine Ext.up ?_ _ | refine Ext.alloc ?_ _ | refine Ext.drew ?_ | refine Ext.setRow ?_ (by first | (dsimp only; omega) | exact LeS.le | exact LeS.add _ | (simp; done) | (simp; omega)) _ | refine Ext.setCell ?_ (by first | (dsimp only; omega) | exact LeS.le | exact LeS.add _ | (simp; done) | (simp; omega)) _)) rfl rfl (by go_simp) rfl (oneIs _) (by have := Hle.out; simp at this ⊢; omega) (by have := Hle.out; simp at this ⊢; omega) ?_; intro v1 z1 hown1)
      have hown2 := Lib.hid hown1; clear hown1
      go_wp2_with (go_at_call 42; refine (sumOf_any 5 (b.nums l) _ _ (hown2.out.sl encI_length)).mono ?_; rintro e w' ⟨rfl, z2, rfl⟩)
      go_ret
      exact ⟨by rw [Hfin.out]; rfl, (.of (by repeat (first | exact Ext.refl _ | refine Ext.up ?_ _ | refine Ext.alloc ?_ _ | refine Ext.drew ?_ | refine Ext.setRow ?_ (by first | (dsimp only; omega) | exact LeS.le | exact LeS.add _ | (simp; done) | (simp; omega)) _ | refine Ext.setCell ?_ (by first | (dsimp only; omega) | exact LeS.le | exact LeS.add _ | (simp; done) | (simp; omega)) _)))⟩
set_option maxRecDepth 100000 in
set_option maxHeartbeats 2000000 in
theorem sBlockSum_any (b : Blk) (l : List Actn) (v : Value) (w : World) (h : SL (RF Actn.enc) 4 w v l) :
    Calls Try.prog 39 #[.agg #[.int .i64 b.bf, .int .i64 b.ht, .int .i64 b.vw, v, .int .i64 b.rt, .int .i64 b.ef]] w fun e w' => e = .returned (.int .i64 (bsum b l)) ∧ Up w w' := by
  have hs := h
  obtain ⟨p, cap, rfl, hlen, hc⟩ := h.open
  have Hs := Lib.hid hs; clear h hs
  rcases hok : b.okL l with _ | _
  · rw [bsum_no hok]
    have kz := fun w h => sBlockValid_any b l (.slice p l.length cap) w h
    rw [hok] at kz
    go_enter Try.func39, Try.ntmps39
    go_wp2_with (go_at_call 37; refine (kz _ (Hs.out.up (by repeat (first | exact Ext.refl _ | refine Ext.up ?_ _ | refine Ext.alloc ?_ _ | refine Ext.drew ?_ | refine Ext.setRow ?_ (by first | (dsimp only; omega) | exact LeS.le | exact LeS.add _ | (simp; done) | (simp; omega)) _ | refine Ext.setCell ?_ (by first | (dsimp only; omega) | exact LeS.le | exact LeS.add _ | (simp; done) | (simp; omega)) _)))).mono ?_; rintro e w' ⟨rfl, z0, rfl⟩)
    go_ret
    exact ⟨rfl, (.of (by repeat (first | exact Ext.refl _ | refine Ext.up ?_ _ | refine Ext.alloc ?_ _ | refine Ext.drew ?_ | refine Ext.setRow ?_ (by first | (dsimp only; omega) | exact LeS.le | exact LeS.add _ | (simp; done) | (simp; omega)) _ | refine Ext.setCell ?_ (by first | (dsimp only; omega) | exact LeS.le | exact LeS.add _ | (simp; done) | (simp; omega)) _)))⟩
  have hl10 := actsOk_len (Blk.okL_acts hok)
  have Hsum := Lib.hid (Blk.nums_summed hok)
  have Hfin := Lib.hid (bsum_yes hok)
  have kz := fun w h => sBlockValid_any b l (.slice p l.length cap) w h
  rw [hok] at kz
  have Hok := Lib.hid hok; clear hok
  go_enter Try.func39, Try.ntmps39
  go_wp2_with (go_at_call 37; refine (kz _ (Hs.out.up (by repeat (first | exact Ext.refl _ | refine Ext.up ?_ _ | refine Ext.alloc ?_ _ | refine Ext.drew ?_ | refine Ext.setRow ?_ (by first | (dsimp only; omega) | exact LeS.le | exact LeS.add _ | (simp; done) | (simp; omega)) _ | refine Ext.setCell ?_ (by first | (dsimp only; omega) | exact LeS.le | exact LeS.add _ | (simp; done) | (simp; omega)) _)))).mono ?_; rintro e w' ⟨rfl, z0, rfl⟩)
  go_loopw [3, 4] (fun s3 s4 wr => ∃ k : Nat, s4 = .int .i64 k ∧ k ≤ l.length ∧ Up (w.alloc (.cells #[.int .i64 b.bf, .int .i64 b.ht, .int .i64 b.vw, .slice p l.length cap, .int .i64 b.rt, .int .i64 b.ef] 39)) wr ∧ Own encI 3 1 (w.alloc (.cells #[.int .i64 b.bf, .int .i64 b.ht, .int .i64 b.vw, .slice p l.length cap, .int .i64 b.rt, .int .i64 b.ef] 39)).heap.size wr s3 (b.head l.length ++ aNums (l.take k))) (fun _ s4 _ => l.length - (intOf s4).toNat)
  case atStart => exact ⟨0, rfl, Nat.zero_le _, (.of (by repeat (first | exact Ext.refl _ | refine Ext.up ?_ _ | refine Ext.alloc ?_ _ | refine Ext.drew ?_ | refine Ext.setRow ?_ (by first | (dsimp only; omega) | exact LeS.le | exact LeS.add _ | (simp; done) | (simp; omega)) _ | refine Ext.setCell ?_ (by first | (dsimp only; omega) | exact LeS.le | exact LeS.add _ | (simp; done) | (simp; omega)) _))), Own.lit rfl LeS.le (by simp [Blk.head, aNums]) (by simp [Blk.head, aNums, encI]) encI_length (by simp [Blk.head, aNums])⟩
  case round =>
    obtain ⟨k, rfl, hk, ⟨z, rfl⟩, hown⟩ := hrel
    by_cases hlt : k < l.length
    · obtain ⟨x, hxk⟩ := getElem?_some_of_lt hlt
      obtain ⟨g, off, hp, hb, _⟩ := hc k x hxk
      obtain ⟨c0, c1, c2, c3⟩ := acell hc hp hxk
      subst hp
      have k0 : (0 : Int) ≤ (k : Int) := by omega
      have k1 : (k : Int) < l.length := by omega
      have Hx := Lib.hid (aNums_snoc hxk); have Hown := Lib.hid hown
      have hle : (b.head l.length ++ aNums (l.take k)).length ≤ 4 + 4 * k := by rw [List.length_append, aNums_length, List.length_take]; simp [Blk.head]; omega
      have Hle := Lib.hid hle
      clear hc hxk hown hle
      go_wp2_with fail
      (go_region_held3 (fun w' => (∀ n i, ∀ [LtS n (w.alloc (.cells #[.int .i64 b.bf, .int .i64 b.ht, .int .i64 b.vw, .slice (some ⟨g, off, none⟩) l.length cap, .int .i64 b.rt, .int .i64 b.ef] 39))], w'.cell? ⟨n, i, none⟩ = World.cell? (w.alloc (.cells #[.int .i64 b.bf, .int .i64 b.ht, .int .i64 b.vw, .slice (some ⟨g, off, none⟩) l.length cap, .int .i64 b.rt, .int .i64 b.ef] 39)) ⟨n, i, none⟩) ∧ Ext (w.alloc (.cells #[.int .i64 b.bf, .int .i64 b.ht, .int .i64 b.vw, .slice (some ⟨g, off, none⟩) l.length cap, .int .i64 b.rt, .int .i64 b.ef] 39)) w') ((refine S_of_ext ?_; (repeat (first | exact Ext.refl _ | refine Ext.up ?_ _ | refine Ext.alloc ?_ _ | refine Ext.drew ?_ | refine Ext.setRow ?_ (by first | (dsimp only; omega) | exact LeS.le | exact LeS.add _ | (simp; done) | (simp; omega)) _ | refine Ext.setCell ?_ (by first | (dsimp only; omega) | exact LeS.le | exact LeS.add _ | (simp; done) | (simp; omega)) _)); done)) (((refine step_pushL fI (by rfl) (.tmp 25) (.tmp 50) (by rfl) encI encI_length _ [x.kind, x.src, x.dst, x.amt] (b.head l.length ++ aNums (l.take k)) (by rfl) (Hown.out.up (by repeat (first | exact Ext.refl _ | refine Ext.up ?_ _ | refine Ext.alloc ?_ _ | refine Ext.drew ?_ | refine Ext.setRow ?_ (by first | (dsimp only; omega) | exact LeS.le | exact LeS.add _ | (simp; done) | (simp; omega)) _ | refine Ext.setCell ?_ (by first | (dsimp only; omega) | exact LeS.le | exact LeS.add _ | (simp; done) | (simp; omega)) _))) (by repeat (first | exact Ext.refl _ | refine Ext.up ?_ _ | refine Ext.alloc ?_ _ | refine Ext.drew ?_ | refine Ext.setRow ?_ (by first | (dsimp only; omega) | exact LeS.le | exact LeS.add _ | (simp; done) | (simp; omega)) _ | refine Ext.setCell ?_ (by first | (dsimp only; omega) | exact LeS.le | exact LeS.add _ | (simp; done) | (simp; omega)) _)) (by rfl) (by rfl) (by decide) (by go_simp) (by rfl) (oneIs _) (by have := Hle.out; simp at this ⊢; omega) (by have := Hle.out; simp at this ⊢; omega) ?_; intro v1 z1 hown1))))
      have hown2 := Lib.hid hown1; clear hown1
      go_wp2_with fail
      go_roundw
      case rel => exact ⟨k + 1, by go_num, by omega, (.of (by repeat (first | exact Ext.refl _ | refine Ext.up ?_ _ | refine Ext.alloc ?_ _ | refine Ext.drew ?_ | refine Ext.setRow ?_ (by first | (dsimp only; omega) | exact LeS.le | exact LeS.add _ | (simp; done) | (simp; omega)) _ | refine Ext.setCell ?_ (by first | (dsimp only; omega) | exact LeS.le | exact LeS.add _ | (simp; done) | (simp; omega)) _))), by rw [Hx.out, ← List.append_assoc]; exact hown2.out⟩
      case measure => simp [intOf]; omega
    · obtain rfl : k = l.length := by omega
      rw [List.take_length] at hown
      have Hown := Lib.hid hown
      have hle : (b.head l.length ++ aNums l).length ≤ 4 + 4 * 10 := by rw [List.length_append, aNums_length]; simp [Blk.head]; omega
      have Hle := Lib.hid hle
      clear hc hown hle
      go_wp2_with (at_builtin; refine wpList_pushL fI rfl (.tmp 52) (.tmp 57) rfl encI encI_length _ [b.rt, b.ef] (b.head l.length ++ aNums l) rfl (Hown.out.up (by repeat (first | exact Ext.refl _ | refine Ext.up ?_ _ | refine Ext.alloc ?_ _ | refine Ext.drew ?_ | refine Ext.setRow ?_ (by first | (dsimp only; omega) | exact LeS.le | exact LeS.add _ | (simp; done) | (simp; omega)) _ | refine Ext.setCell ?_ (by first | (dsimp only; omega) | exact LeS.le | exact LeS.add _ | (simp; done) | (simp; omega)) _))) (by repeat (first | exact Ext.refl _ | refine Ext.up ?_ _ | refine Ext.alloc ?_ _ | refine Ext.drew ?_ | refine Ext.setRow ?_ (by first | (dsimp only; omega) | exact LeS.le | exact LeS.add _ | (simp; done) | (simp; omega)) _ | refine Ext.setCell ?_ (by first | (dsimp only; omega) | exact LeS.le | exact LeS.add _ | (simp; done) | (simp; omega)) _)) rfl rfl (by go_simp) rfl (oneIs _) (by have := Hle.out; simp at this ⊢; omega) (by have := Hle.out; simp at this ⊢; omega) ?_; intro v1 z1 hown1)
      have hown2 := Lib.hid hown1; clear hown1
      go_wp2_with (go_at_call 68; refine (l1Sum_any 5 (b.nums l) _ _ (hown2.out.sl encI_length) (by decide) (by decide) Hsum.out).mono ?_; rintro e w' ⟨rfl, rfl⟩)
      go_ret
      exact ⟨by rw [Hfin.out]; rfl, (.of (by repeat (first | exact Ext.refl _ | refine Ext.up ?_ _ | refine Ext.alloc ?_ _ | refine Ext.drew ?_ | refine Ext.setRow ?_ (by first | (dsimp only; omega) | exact LeS.le | exact LeS.add _ | (simp; done) | (simp; omega)) _ | refine Ext.setCell ?_ (by first | (dsimp only; omega) | exact LeS.le | exact LeS.add _ | (simp; done) | (simp; omega)) _)))⟩
end Go.Proofs.Yteiemjebdhmnaaa
namespace Go.Proofs.Yteiemjebdhmnaaa
open Go Go.RowKit

def leafOf (key v : Int) : Int := sumL 18 [key, v]
def nodeOf (a b : Int) : Int := sumL 19 [a, b]
/-- The first k leaves. -/
def leafTo (v : List Int) : Nat → List Int
  | 0 => []
  | k + 1 => leafTo v k ++ [leafOf (k : Int) (v.getD k 0)]
theorem leafTo_length (v : List Int) : ∀ k, (leafTo v k).length = k
  | 0 => rfl
  | k + 1 => by simp [leafTo, leafTo_length v k]
/-- The first k sums of the level above. -/
def upTo2 (row : List Int) : Nat → List Int
  | 0 => []
  | k + 1 => upTo2 row k ++ [nodeOf (row.getD (2 * k) 0) (row.getD (2 * k + 1) 0)]
theorem upTo2_length (row : List Int) : ∀ k, (upTo2 row k).length = k
  | 0 => rfl
  | k + 1 => by simp [upTo2, upTo2_length row k]
def lvlUp (row : List Int) : List Int := upTo2 row (row.length / 2)
theorem lvlUp_length (row : List Int) : (lvlUp row).length = row.length / 2 := upTo2_length _ _
/-- Level n of the tree. -/
def treeRow (v : List Int) : Nat → List Int
  | 0 => leafTo v 32
  | n + 1 => lvlUp (treeRow v n)
theorem treeRow_length (v : List Int) : ∀ n, n ≤ 5 → (treeRow v n).length = 32 / 2 ^ n
  | 0, _ => leafTo_length v 32
  | n + 1, h => by
    rw [treeRow, lvlUp_length, treeRow_length v n (by omega), Nat.div_div_eq_div_mul, Nat.pow_succ]
theorem pow_even {n : Nat} (h : n < 5) : 32 / 2 ^ n = 2 * (32 / 2 ^ n / 2) := by
  have : n = 0 ∨ n = 1 ∨ n = 2 ∨ n = 3 ∨ n = 4 := by omega
  rcases this with rfl | rfl | rfl | rfl | rfl <;> rfl
theorem treeRow_even (v : List Int) {n : Nat} (h : n < 5) : (treeRow v n).length = 2 * ((treeRow v n).length / 2) := by
  rw [treeRow_length v n (by omega)]; exact pow_even h
theorem leafOf_in (key v : Int) : 0 ≤ leafOf key v ∧ leafOf key v < 1000003 := sumL_in (by decide) (by decide) _
theorem nodeOf_in (a b : Int) : 0 ≤ nodeOf a b ∧ nodeOf a b < 1000003 := sumL_in (by decide) (by decide) _
theorem leafTo_in (v : List Int) : ∀ k, ∀ x ∈ leafTo v k, 0 ≤ x ∧ x < 1000003
  | 0 => by simp [leafTo]
  | k + 1 => by
    intro x hx
    rw [leafTo, List.mem_append, List.mem_singleton] at hx
    rcases hx with hx | rfl
    · exact leafTo_in v k x hx
    · exact leafOf_in _ _
theorem upTo2_in (row : List Int) : ∀ k, ∀ x ∈ upTo2 row k, 0 ≤ x ∧ x < 1000003
  | 0 => by simp [upTo2]
  | k + 1 => by
    intro x hx
    rw [upTo2, List.mem_append, List.mem_singleton] at hx
    rcases hx with hx | rfl
    · exact upTo2_in row k x hx
    · exact nodeOf_in _ _
theorem treeRow_in (v : List Int) (n : Nat) : ∀ x ∈ treeRow v n, 0 ≤ x ∧ x < 1000003 := by
  cases n with
  | zero => exact leafTo_in v 32
  | succ n => exact upTo2_in _ _
def rootV (v : List Int) : Int := (treeRow v 5).getD 0 0
def rootOf (s : List Ent) : Int := if entsOk 1 s = true then rootV (valsOf s) else -1
theorem rootOf_no {s : List Ent} (h : entsOk 1 s = false) : rootOf s = -1 := by unfold rootOf; rw [h]; rfl
theorem rootOf_yes {s : List Ent} (h : entsOk 1 s = true) : rootOf s = rootV (valsOf s) := by unfold rootOf; rw [h]; rfl
theorem getD_of {l : List Int} {k : Nat} {x : Int} (h : l[k]? = some x) : l.getD k 0 = x := by simp [List.getD, h]
theorem summed_two {a b : Int} (ha : 0 ≤ a ∧ a ≤ 2000000) (hb : 0 ≤ b ∧ b ≤ 2000000) : summed [a, b] = true := by
  rw [summed_iff]; intro n hn; simp at hn; rcases hn with rfl | rfl; exact ha; exact hb
end Go.Proofs.Yteiemjebdhmnaaa
namespace Go.Proofs.Yteiemjebdhmnaaa
open Go Go.RowKit

/-! ### Slices of blocks -/
structure TB where
  b : Blk
  v : Value
  l : List Actn
def TB.enc (x : TB) : List Value := [.int .i64 x.b.bf, .int .i64 x.b.ht, .int .i64 x.b.vw, x.v, .int .i64 x.b.rt, .int .i64 x.b.ef]
theorem TB.enc_length (x : TB) : x.enc.length = 6 := rfl
abbrev BL := Blk × List Actn
def TB.core (x : TB) : BL := (x.b, x.l)
def SB (w : World) (v : Value) (cs : List BL) : Prop := ∃ bs : List TB, cs = bs.map TB.core ∧ SL (RF TB.enc) 6 w v bs ∧ ∀ x ∈ bs, SL (RF Actn.enc) 4 w x.v x.l
theorem SB.up {w w' : World} {v : Value} {cs : List BL} (h : SB w v cs) (hE : Ext w w') : SB w' v cs := by
  obtain ⟨bs, h1, h2, h3⟩ := h
  exact ⟨bs, h1, h2.up hE, fun x hx => (h3 x hx).up hE⟩
theorem SB.open {w : World} {v : Value} {cs : List BL} (h : SB w v cs) : ∃ a cap, v = .slice a cs.length cap ∧ cs.length ≤ 9223372036854775807 ∧ cs.length ≤ cap ∧ ∀ (k : Nat) x, cs[k]? = some x → ∃ b off p c, a = some ⟨b, off, none⟩ ∧ LtS b w ∧
    w.cell? ⟨b, off + k * 6, none⟩ = some (.int .i64 x.1.bf) ∧ w.cell? ⟨b, off + k * 6 + 1, none⟩ = some (.int .i64 x.1.ht) ∧ w.cell? ⟨b, off + k * 6 + 2, none⟩ = some (.int .i64 x.1.vw) ∧
    w.cell? ⟨b, off + k * 6 + 3, none⟩ = some (.slice p x.2.length c) ∧ w.cell? ⟨b, off + k * 6 + 4, none⟩ = some (.int .i64 x.1.rt) ∧ w.cell? ⟨b, off + k * 6 + 5, none⟩ = some (.int .i64 x.1.ef) ∧ SL (RF Actn.enc) 4 w (.slice p x.2.length c) x.2 := by
  obtain ⟨bs, rfl, h2, h3⟩ := h
  obtain ⟨a, cap, rfl, hl, hcap⟩ := h2.openc
  obtain ⟨a', cap', e', _, hc⟩ := h2.open
  cases e'
  refine ⟨a, cap, by rw [List.length_map], by rw [List.length_map]; exact hl, by rw [List.length_map]; exact hcap, fun k x hx => ?_⟩
  rw [List.getElem?_map, Option.map_eq_some_iff] at hx
  obtain ⟨y, hy, rfl⟩ := hx
  obtain ⟨b, off, ha, hb, hcc⟩ := hc k y hy
  have hs := h3 y (List.mem_of_getElem? hy)
  obtain ⟨p, c, hv, _, _⟩ := hs.openc
  have hd : w.cell? ⟨b, off + k * 6 + 3, none⟩ = some y.v := hcc 3 _ rfl
  rw [hv] at hd hs
  exact ⟨b, off, p, c, ha, hb, hcc 0 _ rfl, hcc 1 _ rfl, hcc 2 _ rfl, hd, hcc 4 _ rfl, hcc 5 _ rfl, hs⟩
theorem SB.openc {w : World} {v : Value} {cs : List BL} (h : SB w v cs) : ∃ a cap, v = .slice a cs.length cap ∧ cs.length ≤ 9223372036854775807 ∧ cs.length ≤ cap := by
  obtain ⟨a, cap, h1, h2, h3, _⟩ := h.open
  exact ⟨a, cap, h1, h2, h3⟩
/-- Blocks of the call's own. -/
def OB (eB eA lo : Nat) (w : World) (v : Value) (bs : List TB) : Prop := Own TB.enc eB 6 lo w v bs ∧ (∀ x ∈ bs, Own Actn.enc eA 4 lo w x.v x.l ∧ Apart x.v v) ∧ bs.Pairwise (fun x y => Apart x.v y.v)
theorem OB.sb {eB eA lo : Nat} {w : World} {v : Value} {bs : List TB} (h : OB eB eA lo w v bs) : SB w v (bs.map TB.core) := ⟨bs, rfl, h.1.sl TB.enc_length, fun x hx => (h.2.1 x hx).1.sl Actn.enc_length⟩
theorem OB.up {eB eA lo : Nat} {w w' : World} {v : Value} {bs : List TB} (h : OB eB eA lo w v bs) (hE : Ext w w') : OB eB eA lo w' v bs := ⟨h.1.up hE, fun x hx => ⟨(h.2.1 x hx).1.up hE, (h.2.1 x hx).2⟩, h.2.2⟩

/-! ### Trees -/
structure Tree where
  base : List Ent
  bs : List BL
  pr : List Int
def totA (cs : List BL) : Nat := (cs.map fun x => x.2.length).sum
theorem totA_snoc {cs : List BL} {k : Nat} {x : BL} (h : cs[k]? = some x) : totA (cs.take (k + 1)) = totA (cs.take k) + x.2.length := by
  rw [List.take_add_one, h]; simp [totA]
theorem totA_mem {cs : List BL} {x : BL} (h : x ∈ cs) : x.2.length ≤ totA cs := by
  unfold totA
  induction cs with
  | nil => cases h
  | cons y cs ih =>
    rw [List.map_cons, List.sum_cons]
    rcases List.mem_cons.1 h with rfl | h
    · omega
    · have := ih h; omega
theorem totA_le (cs : List BL) (k : Nat) : totA (cs.take k) ≤ totA cs := by
  unfold totA
  conv => rhs; rw [← List.take_append_drop k cs]
  rw [List.map_append, List.sum_append]; omega
/-- The first block's fields. -/
def firstB (s : List Ent) : Blk := if entsOk 1 s = true then ⟨0, 0, 0, rootOf s, 21⟩ else ⟨0, 0, 0, 0, 0⟩
theorem firstB_yes {s : List Ent} (h : entsOk 1 s = true) : firstB s = ⟨0, 0, 0, rootOf s, 21⟩ := by unfold firstB; rw [if_pos h]
theorem firstB_no {s : List Ent} (h : entsOk 1 s = false) : firstB s = ⟨0, 0, 0, 0, 0⟩ := by unfold firstB; rw [if_neg (by simp [h])]
def sameF (x : BL) (f : Blk) : Bool := ((x.1.bf == f.bf) && ((x.1.ht == f.ht) && ((x.1.vw == f.vw) && ((x.1.rt == f.rt) && ((x.1.ef == f.ef) && ((x.2.length : Int) == 0))))))
def bsumOf (x : BL) : Int := bsum x.1 x.2
def sumsOf (cs : List BL) : List Int := cs.map bsumOf
theorem sumsOf_snoc {cs : List BL} {k : Nat} {x : BL} (h : cs[k]? = some x) : sumsOf (cs.take (k + 1)) = sumsOf (cs.take k) ++ [bsumOf x] := by
  rw [List.take_add_one, h]; simp [sumsOf]
theorem sumsOf_length (cs : List BL) : (sumsOf cs).length = cs.length := by simp [sumsOf]
theorem sumsOf_get {cs : List BL} {k : Nat} {x : BL} (h : cs[k]? = some x) : (sumsOf cs)[k]? = some (bsumOf x) := by simp [sumsOf, h]
def newAt (cs : List BL) (i : Nat) : Bool := match cs[i]? with
  | none => true
  | some x => decide (0 ≤ bsumOf x) && !(sumsOf (cs.take i)).contains (bsumOf x)
def linkAt (cs : List BL) (pr : List Int) (i : Nat) : Bool := decide (i = 0) || match cs[i]?, pr[i]? with
  | some x, some n => inR n 0 ((i : Int) - 1) && match cs[n.toNat]? with
    | some y => decide (bsumOf y = x.1.bf) && (decide (y.1.ht + 1 = x.1.ht) && decide (y.1.vw < x.1.vw))
    | none => true
  | _, _ => true
def Tree.head (t : Tree) : Bool := entsOk 1 t.base && (inR t.bs.length 1 14 && (decide (t.pr.length = t.bs.length) && decide (t.pr.getD 0 0 = -1)))
def Tree.first (t : Tree) : Bool := match t.bs[0]? with | some x => sameF x (firstB t.base) | none => true
def Tree.ok (t : Tree) : Bool := t.head && (t.first && (upTo (newAt t.bs) t.bs.length && upTo (linkAt t.bs t.pr) t.bs.length))
theorem bsum_ge {b : Blk} {l : List Actn} (h : b.okL l = true) : 0 ≤ bsum b l ∧ bsum b l < 1000003 := by
  rw [bsum_yes h]; exact sumL_in (by decide) (by decide) _
theorem bsum_ok (b : Blk) (l : List Actn) : decide (0 ≤ bsum b l) = b.okL l := by
  rcases h : b.okL l with _ | _
  · rw [bsum_no h]; rfl
  · have := (bsum_ge h).1; simpa using this
theorem Blk.okL_in {b : Blk} {l : List Actn} (h : b.okL l = true) : (0 ≤ b.bf ∧ b.bf ≤ 1000002) ∧ (0 ≤ b.rt ∧ b.rt ≤ 1000002) ∧ (0 ≤ b.ef ∧ b.ef ≤ 1000002) ∧ (0 ≤ b.ht ∧ b.ht ≤ 100) ∧ (0 ≤ b.vw ∧ b.vw ≤ 1000) := by
  simp only [Blk.okL, Bool.and_eq_true, inR_iff] at h
  exact ⟨h.1, h.2.1, h.2.2.1, h.2.2.2.1, h.2.2.2.2.1⟩
/-- The number of the first block with a sum, -1 for none. -/
def findTo (cs : List BL) (sum : Int) (k : Nat) : Bool := upTo (fun i => match cs[i]? with | none => true | some x => decide (bsumOf x ≠ sum)) k
def findB (cs : List BL) (sum : Int) : Int := match cs.findIdx? (fun x => bsumOf x == sum) with | some i => (i : Int) | none => -1
theorem findTo_next {cs : List BL} {sum : Int} {k : Nat} {x : BL} (h : findTo cs sum k = true) (hx : cs[k]? = some x) (hne : bsumOf x ≠ sum) : findTo cs sum (k + 1) = true :=
  upTo_succ h (by simp only [hx]; simpa using hne)
theorem findTo_ne {cs : List BL} {sum : Int} {k : Nat} (h : findTo cs sum k = true) {i : Nat} (hi : i < k) {y : BL} (hy : cs[i]? = some y) : bsumOf y ≠ sum := by
  have := upTo_iff.1 h i hi
  simpa [hy] using this
theorem findB_at {cs : List BL} {sum : Int} {k : Nat} {x : BL} (h : findTo cs sum k = true) (hx : cs[k]? = some x) (he : bsumOf x = sum) : findB cs sum = k := by
  have : cs.findIdx? (fun x => bsumOf x == sum) = some k := by
    rw [List.findIdx?_eq_some_iff_getElem]
    obtain ⟨h1, h2⟩ := List.getElem?_eq_some_iff.1 hx
    refine ⟨h1, by rw [h2]; simpa using he, fun j hj => ?_⟩
    have := findTo_ne h hj (show cs[j]? = some cs[j] by simp)
    simpa using this
  unfold findB; rw [this]
theorem findB_none {cs : List BL} {sum : Int} (h : findTo cs sum cs.length = true) : findB cs sum = -1 := by
  have : cs.findIdx? (fun x => bsumOf x == sum) = none := by
    rw [List.findIdx?_eq_none_iff]
    intro x hx
    obtain ⟨i, hi⟩ := List.getElem?_of_mem hx
    have := findTo_ne h (List.getElem?_eq_some_iff.1 hi).1 hi
    simpa using this
  unfold findB; rw [this]
theorem findB_ge (cs : List BL) (sum : Int) : -1 ≤ findB cs sum ∧ findB cs sum < cs.length + 1 := by
  unfold findB
  split
  · rename_i i h
    have := (List.findIdx?_eq_some_iff_getElem.1 h).1
    omega
  · omega
/-- A block is the first with its sum: its sum is new. -/
theorem newAt_find {cs : List BL} {k : Nat} {x : BL} (hx : cs[k]? = some x) : newAt cs k = (x.1.okL x.2 && decide (findB cs (bsumOf x) = k)) := by
  unfold newAt
  rw [hx]
  show (decide (0 ≤ bsum x.1 x.2) && _) = _
  rw [bsum_ok]
  congr 1
  rcases hc : (sumsOf (cs.take k)).contains (bsumOf x) with _ | _
  · have : findTo cs (bsumOf x) k = true := by
      refine upTo_iff.2 fun i hi => ?_
      obtain ⟨y, hy⟩ := getElem?_some_of_lt (show i < cs.length by have := (List.getElem?_eq_some_iff.1 hx).1; omega)
      simp only [hy]
      rw [← Bool.not_eq_true] at hc
      have hne : bsumOf y ≠ bsumOf x := fun e => hc (by
        rw [List.contains_iff_mem, ← e]
        exact List.mem_map.2 ⟨y, List.mem_of_getElem? (by rw [List.getElem?_take_of_lt hi]; exact hy), rfl⟩)
      simpa using hne
    simp [findB_at this hx rfl]
  · rw [List.contains_iff_mem] at hc
    obtain ⟨y, hy, he⟩ := List.mem_map.1 hc
    obtain ⟨i, hi⟩ := List.getElem?_of_mem hy
    have hik : i < k := by have := (List.getElem?_eq_some_iff.1 hi).1; simp at this; omega
    rw [List.getElem?_take_of_lt hik] at hi
    have : findB cs (bsumOf x) ≠ k := by
      intro e
      unfold findB at e
      split at e
      · rename_i j hj
        have : j = k := by omega
        subst this
        have h3 := (List.findIdx?_eq_some_iff_getElem.1 hj).2.2 i hik
        obtain ⟨h5, h4⟩ := List.getElem?_eq_some_iff.1 hi
        rw [h4] at h3
        simp [he] at h3
      · omega
    simp [this]
theorem upTo_and {f g : Nat → Bool} (n : Nat) : upTo (fun i => f i && g i) n = (upTo f n && upTo g n) := by
  rw [Bool.eq_iff_iff, Bool.and_eq_true]
  simp only [upTo_iff, Bool.and_eq_true]
  exact ⟨fun h => ⟨fun k hk => (h k hk).1, fun k hk => (h k hk).2⟩, fun h k hk => ⟨h.1 k hk, h.2 k hk⟩⟩
end Go.Proofs.Yteiemjebdhmnaaa
