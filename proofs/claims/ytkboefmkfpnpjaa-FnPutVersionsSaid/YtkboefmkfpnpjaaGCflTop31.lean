/- The law FnLevelOrder's walk. Plain laws: the order of the numbers fits, that of levels fits, one with a number twice does not. The law FnOrderFits's walk. Plain laws: the versions of a serial run: what is read in them, and the store that they leave. -/
import Derived.Test.YtkboefmkfpnpjaaGCflTop30
import Derived.Test.YtkboefmkfpnpjaaGCflTop25
import Derived.Test.YtkboefmkfpnpjaaGCflTop09
import Derived.Test.YtkboefmkfpnpjaaGCflTop26
import Derived.Test.YtkboefmkfpnpjaaGCflTop27
import Derived.Test.YtkboefmkfpnpjaaGCflTop14
import Derived.Test.YtkboefmkfpnpjaaGCflTop28
import Derived.Test.YtkboefmkfpnpjaaGCflTop22
set_option linter.unusedSimpArgs false
set_option linter.unusedVariables false
namespace Go.Proofs.Ytkboefmkfpnpjaa
open Go Go.RowKit Go.Proofs

theorem len_le : ∀ {a b : List Int}, a.Pairwise (· ≠ ·) → (∀ x ∈ a, x ∈ b) → a.length ≤ b.length
  | [], b, _, _ => by simp
  | x :: a, b, ha, hs => by
    rw [List.pairwise_cons] at ha
    have hx : x ∈ b := hs x (by simp)
    have h1 := len_le (a := a) (b := b.erase x) ha.2 (fun y hy => (List.mem_erase_of_ne (fun e => ha.1 y hy e.symm)).2 (hs y (by simp [hy])))
    rw [List.length_erase_of_mem hx] at h1
    have : 0 < b.length := List.length_pos_of_mem hx
    simp only [List.length_cons]; omega
theorem lvoR_mem (l : List Actn) (x : Int) : x ∈ lvoR l ↔ ∃ i : Nat, i < (lvlR l).length ∧ x = i := by
  rw [lvoR, lvRows_mem]
  constructor
  · rintro ⟨i, h1, h2, _⟩; exact ⟨i, h1, h2⟩
  · rintro ⟨i, h1, h2⟩
    obtain ⟨a, ha⟩ := getElem?_some_of_lt h1
    have := lvlR_in l a (List.mem_of_getElem? ha)
    exact ⟨i, h1, h2, a.toNat, by omega, by rw [ha]; congr 1; omega⟩
theorem lvoR_length (l : List Actn) : (lvoR l).length = (lvlR l).length := by
  have hm := lvoR_mem l
  have hr : ∀ x : Int, x ∈ rangeI (lvlR l).length ↔ ∃ i : Nat, i < (lvlR l).length ∧ x = i := by
    intro x
    simp only [rangeI, List.mem_map, List.mem_range]
    exact ⟨fun ⟨i, h1, h2⟩ => ⟨i, h1, h2.symm⟩, fun ⟨i, h1, h2⟩ => ⟨i, h1, h2.symm⟩⟩
  have h1 : (lvoR l).length ≤ (rangeI (lvlR l).length).length := len_le ((lvRows_lt _ _).imp (fun {a b} h e => by subst e; unfold lvLt at h; omega)) (fun x hx => (hr x).2 ((hm x).1 hx))
  have h2 : (rangeI (lvlR l).length).length ≤ (lvoR l).length := by
    refine len_le ?_ (fun x hx => (hm x).2 ((hr x).1 hx))
    rw [rangeI, List.pairwise_map, List.pairwise_iff_getElem]
    intro i j hi hj hij
    simp
    omega
  rw [rangeI_length] at h1 h2
  omega
theorem lvoR_step (l : List Actn) {k : Nat} {i j : Nat} {a b : Int} (hi : (lvoR l)[k]? = some (i : Int)) (hj : (lvoR l)[k + 1]? = some (j : Int)) (ha : (lvlR l)[i]? = some a) (hb : (lvlR l)[j]? = some b) : a ≤ b := by
  have hp := lvRows_lt (lvlR l) (lvlR l).length
  rw [List.pairwise_iff_getElem] at hp
  obtain ⟨h1, h2⟩ := List.getElem?_eq_some_iff.1 hi
  obtain ⟨h3, h4⟩ := List.getElem?_eq_some_iff.1 hj
  have h5 : lvLt (lvlR l) (lvoR l)[k] (lvoR l)[k + 1] := hp k (k + 1) h1 h3 (Nat.lt_succ_self _)
  rw [h2, h4] at h5
  unfold lvLt lvl0 at h5
  simp only [Int.toNat_natCast] at h5
  rw [getD_of ha, getD_of hb] at h5
  omega
end Go.Proofs.Ytkboefmkfpnpjaa
namespace Go.Proofs.Ytkboefmkfpnpjaa
open Go Go.RowKit Go.Proofs

theorem ordOk_of {l : List Actn} {o : List Int} (ha : actsOk l = true) (hl : o.length = l.length) (hr : ∀ (k : Nat) n, o[k]? = some n → 0 ≤ n ∧ n < l.length)
    (hp : ∀ (j k : Nat) m n, j < k → o[j]? = some m → o[k]? = some n → m ≠ n ∧ (n < m → cfAt l m n = false)) : ordOk l o = true := by
  rw [ordOk, ha, decide_eq_true hl, Bool.true_and, Bool.true_and]
  refine upTo_iff.2 fun k hk => ?_
  obtain ⟨n, hn⟩ := getElem?_some_of_lt hk
  have := hr k n hn
  rw [ordAt_eq hn, Bool.and_eq_true, inR_iff]
  refine ⟨by omega, upTo_iff.2 fun j hj => ?_⟩
  obtain ⟨m, hm⟩ := getElem?_some_of_lt (l := o) (k := j) (by omega)
  obtain ⟨h1, h2⟩ := hp j k m n hj hm hn
  rw [pairOk_eq hm hn, decide_eq_true h1, Bool.true_and]
  by_cases h : n < m
  · rw [h2 h]; simp
  · rw [decide_eq_false h]; rfl
theorem rangeI_at {n k : Nat} (h : k < n) : (rangeI n)[k]? = some (k : Int) := by simp [rangeI, h]
theorem rangeI_get {n k : Nat} {x : Int} (h : (rangeI n)[k]? = some x) : x = k ∧ k < n := by
  have hk : k < n := by have := (List.getElem?_eq_some_iff.1 h).1; rwa [rangeI_length] at this
  rw [rangeI_at hk] at h
  cases h; exact ⟨rfl, hk⟩
theorem ord_plain {l : List Actn} (ha : actsOk l = true) : ordOk l (rangeI l.length) = true := by
  refine ordOk_of ha (rangeI_length _) (fun k n h => ?_) fun j k m n hjk hm hn => ?_
  · obtain ⟨rfl, h⟩ := rangeI_get h; omega
  · obtain ⟨rfl, _⟩ := rangeI_get hm
    obtain ⟨rfl, _⟩ := rangeI_get hn
    exact ⟨by omega, fun h => by omega⟩
theorem ord_level {l : List Actn} (ha : actsOk l = true) : ordOk l (lvoR l) = true := by
  have hlv : lvlR l = lvlTo l l.length := by unfold lvlR; rw [ha]; rfl
  have hll : (lvlR l).length = l.length := by rw [hlv, lvlTo_length]
  have hrow := lvRows_lt (lvlR l) (lvlR l).length
  refine ordOk_of ha (by rw [lvoR_length, hll]) (fun k n h => ?_) fun j k m n hjk hm hn => ?_
  · obtain ⟨i, hi, rfl⟩ := (lvoR_mem l n).1 (List.mem_of_getElem? h); omega
  · rw [List.pairwise_iff_getElem] at hrow
    obtain ⟨a1, a2⟩ := List.getElem?_eq_some_iff.1 hm
    obtain ⟨b1, b2⟩ := List.getElem?_eq_some_iff.1 hn
    have hlt : lvLt (lvlR l) (lvoR l)[j] (lvoR l)[k] := hrow j k a1 b1 hjk
    rw [a2, b2] at hlt
    obtain ⟨i, hi, rfl⟩ := (lvoR_mem l m).1 (List.mem_of_getElem? hm)
    obtain ⟨i', hi', rfl⟩ := (lvoR_mem l n).1 (List.mem_of_getElem? hn)
    refine ⟨fun e => ?_, fun h => ?_⟩
    · rw [e] at hlt; unfold lvLt at hlt; omega
    · obtain ⟨x, hx⟩ := getElem?_some_of_lt (l := l) (k := i) (by omega)
      obtain ⟨y, hy⟩ := getElem?_some_of_lt (l := l) (k := i') (by omega)
      rw [cfAt_eq (x := x) (y := y) (by simpa using hx) (by simpa using hy)]
      rcases hc : conf x y with _ | _
      · rfl
      · exfalso
        rw [conf_comm] at hc
        rw [hll] at hi hi'
        obtain ⟨a, hA⟩ := getElem?_some_of_lt (l := lvlTo l l.length) (k := i') (by rw [lvlTo_length]; exact hi')
        obtain ⟨b, hB⟩ := getElem?_some_of_lt (l := lvlTo l l.length) (k := i) (by rw [lvlTo_length]; exact hi)
        have hab := lvl_lt (n := l.length) (by omega) hi hy hx hA hB hc
        rw [← hlv] at hA hB
        have e1 : lvl0 (lvlR l) (i : Int) = b := by unfold lvl0; rw [Int.toNat_natCast, List.getD_eq_getElem?_getD, hB]; rfl
        have e2 : lvl0 (lvlR l) (i' : Int) = a := by unfold lvl0; rw [Int.toNat_natCast, List.getD_eq_getElem?_getD, hA]; rfl
        unfold lvLt at hlt
        rw [e1, e2] at hlt
        omega
theorem ord_twice {l : List Actn} {o : List Int} : ordOk l (0 :: 0 :: o) = false := by
  rw [ordOk, upTo_false (k := 1) (by simp) (by
    rw [ordAt_eq (n := 0) rfl, upTo_false (f := pairOk l (0 :: 0 :: o) 1) (k := 0) (by decide) (by rw [pairOk_eq (m := 0) (n := 0) rfl rfl]; rfl)]
    simp)]
  simp
end Go.Proofs.Ytkboefmkfpnpjaa
namespace Go.Proofs.Ytkboefmkfpnpjaa
open Go Go.RowKit Go.Proofs

/-- An operation whose guard lets it through. -/
theorem wpList_on {P : Program} {ops : Array Oper} {Q : Exit → Act → World → Prop} {a : Act} {w : World} {rest : List Oper} {o : Oper} (hw : Region.wanted o (yielded ops a.tmps) = true)
    (h : wpList P ops Q ({ o with guard := none } :: rest) a w) : wpList P ops Q (o :: rest) a w := by
  unfold wpList at h ⊢
  rw [if_pos hw]
  rw [if_pos (by rfl)] at h
  exact h
set_option maxRecDepth 100000 in
set_option maxHeartbeats 2000000 in
theorem drawOrderFits_any (bs : List Int) (v : Value) (w : World) (h : SL (RF encU) 1 w v bs) (hb : ∀ b ∈ bs, 0 ≤ b ∧ b ≤ 255) :
    Calls Try.prog 45 #[v] w fun e w' => ∃ vl vo l o, e = .returned (.tuple #[vl, vo]) ∧ Up w w' ∧ l.length ≤ 11 ∧ o.length ≤ 100 ∧ SL (RF Actn.enc) 4 w' vl l ∧ SL (RF encI) 1 w' vo o := by
  have H := Lib.hid h; clear h
  go_enter Try.func45, Try.ntmps45
  go_wp2_with fail
  refine (open_any bs v _ H.out hb).mono ?_; rintro e w' ⟨rb, rfl, ⟨z0, rfl⟩, hr⟩
  have H0 := Lib.hid hr
  have Hold := Lib.hid hr.old
  have hrb := hr.lt
  clear hr
  go_wp2_with fail
  refine (actions_any _ _ rb _ 12 H0.out (by omega) (by omega) (by omega)).mono ?_; rintro e w' ⟨yl, l, rfl, hl, _, _, ⟨z2, rfl⟩, hr, hol⟩
  have H2 := Lib.hid hr; have HL := Lib.hid hol; clear hr hol
  have hz0 := z0.ext.size
  have hz2 := z2.grown.size
  go_wp2_with fail
  refine (order_any _ _ rb _ _ l yl H2.out (by omega) HL.out hrb hl).mono ?_; rintro e w' ⟨yo, o, rfl, ho, ⟨z3, rfl⟩, hr, hoo⟩
  have H3 := Lib.hid hr; have HO := Lib.hid hoo
  have hlo2 : rb < z2.val.heap.size := by omega
  have E3 := Lib.hid (Ext.upR (Ext.upR z0.ext Hold.out z2) Hold.out z3)
  have HL3 := Lib.hid (HL.out.upR hrb z3)
  clear hr hoo
  by_cases h0 : o.length = 0
  · obtain rfl : o = [] := List.eq_nil_of_length_eq_zero h0
    obtain ⟨po, co, rfl, _, _⟩ := (HO.out.sl encI_length).openc
    rw [show ([] : List Int).length = 0 from rfl] at HO ⊢
    clear h0
    go_wp2_with fail
    refine bodyPost_ret (v := .tuple #[yl, .slice po 0 co]) (by simp [results, Try.results45, go_sem]) rfl ?_
    exact ⟨_, _, l, [], rfl, .of E3.out, hl, by simp, HL3.out.sl Actn.enc_length, HO.out.sl encI_length⟩
  obtain ⟨g, co, rfl⟩ := Own.ne' HO.out (by intro e; rw [e] at h0; exact h0 rfl)
  have hgl := (World.ownsRow.lt HO.out g rfl).1
  have hgz := (World.ownsRow.lt HO.out g rfl).2
  have h0' : decide (0 < o.length) = true := by simp; omega
  have h0'' : decide ((0 : Int) < (o.length : Int)) = true := by simp; omega
  go_wp2_with fail
  refine (odd_any _ _ rb _ 6 H3.out (by omega) (by omega) (by omega)).mono ?_; rintro e w' ⟨bo, rfl, -, ⟨z4, rfl⟩, hr⟩
  have H4 := Lib.hid hr; clear hr
  have HO4 := Lib.hid (HO.out.upR hlo2 z4)
  have HL4 := Lib.hid (HL3.out.upR hrb z4)
  have E4 := Lib.hid (Ext.upR E3.out Hold.out z4)
  rcases bo with _ | _
  · go_wp2_with fail
    refine bodyPost_ret (v := .tuple #[yl, .slice (some ⟨g, 0, none⟩) o.length co]) (by simp [results, Try.results45, go_sem]) rfl ?_
    exact ⟨_, _, l, o, rfl, .of E4.out, hl, ho, HL4.out.sl Actn.enc_length, HO4.out.sl encI_length⟩
  go_wp2_with fail
  refine (pick_any _ _ rb _ (o.length : Int) H4.out (by omega) (by omega) (by omega)).mono ?_; rintro e w' ⟨q, rfl, q0, q1, _, ⟨z5, rfl⟩, hr⟩
  have H5 := Lib.hid hr; clear hr
  have hq := q1 (by omega)
  clear q1
  obtain ⟨n, rfl⟩ : ∃ n : Nat, q = (n : Int) := ⟨q.toNat, by omega⟩
  go_wp2_with fail
  refine (pick_any _ _ rb _ 9 H5.out (by omega) (by omega) (by omega)).mono ?_; rintro e w' ⟨r, rfl, r0, r1, _, ⟨z6, rfl⟩, hr⟩
  have H6 := Lib.hid hr; clear hr
  have HO6 := Lib.hid ((HO4.out.upR hlo2 z5).upR hlo2 z6)
  have HL6 := Lib.hid ((HL4.out.upR hrb z5).upR hrb z6)
  have E6 := Lib.hid (Ext.upR (Ext.upR E4.out Hold.out z5) Hold.out z6)
  have hr9 := r1 (by omega)
  clear r1
  have fa : z6.val.frozen? ⟨g, n, none⟩ = false := HO6.out.frozenI n
  obtain ⟨a, ha⟩ := getElem?_some_of_lt (l := o) (k := n) (by omega)
  have ca : z6.val.cell? ⟨g, n, none⟩ = some (.int .i64 a) := by have := HO6.out.cellI ha; simpa using this
  have hLg : LtS g z6.val := ⟨(World.ownsRow.lt HO6.out g rfl).2⟩
  have hn0 : (0 : Int) ≤ (n : Int) := by omega
  have hw : IntKind.i64.wrap (r - 1) = r - 1 := IntWalk.i64_in _ ⟨by omega, by omega⟩
  clear ha
  go_wp2_with fail
  refine bodyPost_ret (v := .tuple #[yl, .slice (some ⟨g, 0, none⟩) o.length co]) (by simp [results, Try.results45, go_sem]) rfl ?_
  have HS := Lib.hid (Own.setI (k := n) HO6.out (by omega) (r - 1))
  have hlg : z0.val.heap.size ≤ z2.val.heap.size := z2.grown.size
  have hlu := HL.out.under
  have hap := Own.ap HL6.out n (.int .i64 (r - 1)) (g := g) (by
    cases hv : yl.ownBlock with
    | none => exact .inl rfl
    | some k => right; intro e; have := hlu k hv; cases e; omega)
  refine ⟨_, _, l, o.set n (r - 1), rfl, .of (E6.out.setCell (by show w.heap.size ≤ g; omega) _), hl, by rw [List.length_set]; exact ho, hap.sl Actn.enc_length, HS.out.sl encI_length⟩
set_option maxRecDepth 100000 in
set_option maxHeartbeats 2000000 in
theorem FnOrderFits_any (bs : List Int) (v : Value) (w : World) (h : SL (RF encU) 1 w v bs) (hb : ∀ b ∈ bs, 0 ≤ b ∧ b ≤ 255) :
    Calls Try.prog 8 #[v] w fun e w' => e = .returned (.bool true) ∧ Up w w' := by
  have H := Lib.hid h
  obtain ⟨p, c, rfl, _, _⟩ := h.openc
  clear h
  by_cases hl : 1048576 < bs.length
  · go_enter Try.func8, Try.ntmps8
    go_wp2_with fail
    go_ret
    exact ⟨rfl, (.of (by repeat (first | (with_reducible exact Ext.refl _) | (with_reducible refine Ext.up ?_ _) | (with_reducible refine Ext.alloc ?_ _) | (with_reducible refine Ext.drew ?_) | (with_reducible refine Ext.setRow ?_ (by first | exact LeS.le | exact LeS.add _ | (simp; done) | (simp; omega)) _) | (with_reducible refine Ext.setCell ?_ (by first | exact LeS.le | exact LeS.add _ | (simp; done) | (simp; omega)) _))))⟩
  go_enter Try.func8, Try.ntmps8
  go_wp2_with fail
  refine (drawOrderFits_any bs _ _ (H.out.up (by repeat (first | (with_reducible exact Ext.refl _) | (with_reducible refine Ext.up ?_ _) | (with_reducible refine Ext.alloc ?_ _) | (with_reducible refine Ext.drew ?_) | (with_reducible refine Ext.setRow ?_ (by first | exact LeS.le | exact LeS.add _ | (simp; done) | (simp; omega)) _) | (with_reducible refine Ext.setCell ?_ (by first | exact LeS.le | exact LeS.add _ | (simp; done) | (simp; omega)) _)))) hb).mono ?_; rintro e w' ⟨vl, vo, l, o, rfl, ⟨z0, rfl⟩, hl11, _, ol, oo⟩
  obtain ⟨p1, c1, rfl, _, _⟩ := ol.openc
  obtain ⟨p2, c2, rfl, _, _⟩ := oo.openc
  have HL := Lib.hid ol; have HO := Lib.hid oo
  clear ol oo
  have kac := fun w h => sActionsValid_any l (.slice p1 l.length c1) w h
  have hno : actsOk l = false → ordOk l o = false := fun h => by rw [ordOk, h]; rfl
  go_wp2_with fail
  refine (iOrderFits_any l o _ _ _ (HL.out.up (by repeat (first | (with_reducible exact Ext.refl _) | (with_reducible refine Ext.up ?_ _) | (with_reducible refine Ext.alloc ?_ _) | (with_reducible refine Ext.drew ?_) | (with_reducible refine Ext.setRow ?_ (by first | exact LeS.le | exact LeS.add _ | (simp; done) | (simp; omega)) _) | (with_reducible refine Ext.setCell ?_ (by first | exact LeS.le | exact LeS.add _ | (simp; done) | (simp; omega)) _)))) (HO.out.up (by repeat (first | (with_reducible exact Ext.refl _) | (with_reducible refine Ext.up ?_ _) | (with_reducible refine Ext.alloc ?_ _) | (with_reducible refine Ext.drew ?_) | (with_reducible refine Ext.setRow ?_ (by first | exact LeS.le | exact LeS.add _ | (simp; done) | (simp; omega)) _) | (with_reducible refine Ext.setCell ?_ (by first | exact LeS.le | exact LeS.add _ | (simp; done) | (simp; omega)) _))))).mono ?_; rintro e w' ⟨rfl, ⟨z1, rfl⟩⟩
  go_wp2_with fail
  refine (sOrderFits_any l o _ _ _ (HL.out.up (by repeat (first | (with_reducible exact Ext.refl _) | (with_reducible refine Ext.up ?_ _) | (with_reducible refine Ext.alloc ?_ _) | (with_reducible refine Ext.drew ?_) | (with_reducible refine Ext.setRow ?_ (by first | exact LeS.le | exact LeS.add _ | (simp; done) | (simp; omega)) _) | (with_reducible refine Ext.setCell ?_ (by first | exact LeS.le | exact LeS.add _ | (simp; done) | (simp; omega)) _)))) (HO.out.up (by repeat (first | (with_reducible exact Ext.refl _) | (with_reducible refine Ext.up ?_ _) | (with_reducible refine Ext.alloc ?_ _) | (with_reducible refine Ext.drew ?_) | (with_reducible refine Ext.setRow ?_ (by first | exact LeS.le | exact LeS.add _ | (simp; done) | (simp; omega)) _) | (with_reducible refine Ext.setCell ?_ (by first | exact LeS.le | exact LeS.add _ | (simp; done) | (simp; omega)) _))))).mono ?_; rintro e w' ⟨rfl, ⟨z2, rfl⟩⟩
  generalize ordOk l o = bo at *
  have hbb : (bo != bo) = false := by simp
  rcases ha : actsOk l with _ | _
  · obtain rfl := hno ha
    simp only [ha] at kac
    clear hno ha
    go_wp2_with fail
    refine (kac _ (HL.out.up (by repeat (first | (with_reducible exact Ext.refl _) | (with_reducible refine Ext.up ?_ _) | (with_reducible refine Ext.alloc ?_ _) | (with_reducible refine Ext.drew ?_) | (with_reducible refine Ext.setRow ?_ (by first | exact LeS.le | exact LeS.add _ | (simp; done) | (simp; omega)) _) | (with_reducible refine Ext.setCell ?_ (by first | exact LeS.le | exact LeS.add _ | (simp; done) | (simp; omega)) _))))).mono ?_; rintro e w' ⟨rfl, ⟨z5, rfl⟩⟩
    go_wp2_with fail
    refine (alive_any _).mono ?_; rintro e w' ⟨rfl, ⟨z6, rfl⟩⟩
    go_wp2_with fail
    go_ret
    exact ⟨rfl, (.of (by repeat (first | (with_reducible exact Ext.refl _) | (with_reducible refine Ext.up ?_ _) | (with_reducible refine Ext.alloc ?_ _) | (with_reducible refine Ext.drew ?_) | (with_reducible refine Ext.setRow ?_ (by first | exact LeS.le | exact LeS.add _ | (simp; done) | (simp; omega)) _) | (with_reducible refine Ext.setCell ?_ (by first | exact LeS.le | exact LeS.add _ | (simp; done) | (simp; omega)) _))))⟩
  simp only [ha] at kac
  have kp := fun v w h h' => iOrderFits_any l (rangeI l.length) (.slice p1 l.length c1) v w h h'
  rw [ord_plain ha] at kp
  have kv := fun v w h h' => iOrderFits_any l (lvoR l) (.slice p1 l.length c1) v w h h'
  rw [ord_level ha] at kv
  have kt := fun o v w h h' => iOrderFits_any l (0 :: 0 :: o) (.slice p1 l.length c1) v w h h'
  simp only [ord_twice] at kt
  clear hno ha
  go_wp2_with fail
  refine (kac _ (HL.out.up (by repeat (first | (with_reducible exact Ext.refl _) | (with_reducible refine Ext.up ?_ _) | (with_reducible refine Ext.alloc ?_ _) | (with_reducible refine Ext.drew ?_) | (with_reducible refine Ext.setRow ?_ (by first | exact LeS.le | exact LeS.add _ | (simp; done) | (simp; omega)) _) | (with_reducible refine Ext.setCell ?_ (by first | exact LeS.le | exact LeS.add _ | (simp; done) | (simp; omega)) _))))).mono ?_; rintro e w' ⟨rfl, ⟨z5, rfl⟩⟩
  clear kac
  go_wp2_with fail
  go_loopw [6, 7] (fun s6 s7 wr => ∃ (k : Nat), s7 = .int .i64 k ∧ k ≤ l.length ∧ Up z5.val wr ∧ Own encI 3 1 z5.val.heap.size wr s6 (rangeI k)) (fun _ s7 _ => l.length - (intOf s7).toNat)
  case atStart => exact ⟨0, rfl, Nat.zero_le _, (.of (by repeat (first | (with_reducible exact Ext.refl _) | (with_reducible refine Ext.up ?_ _) | (with_reducible refine Ext.alloc ?_ _) | (with_reducible refine Ext.drew ?_) | (with_reducible refine Ext.setRow ?_ (by first | exact LeS.le | exact LeS.add _ | (simp; done) | (simp; omega)) _) | (with_reducible refine Ext.setCell ?_ (by first | exact LeS.le | exact LeS.add _ | (simp; done) | (simp; omega)) _)))), Own.lit rfl (Nat.le_refl _) rfl rfl encI_length (by simp [rangeI])⟩
  case round =>
    obtain ⟨k, rfl, hk, ⟨z, rfl⟩, hown⟩ := hrel
    have HR := Lib.hid hown; clear hown
    by_cases hlt1 : k < l.length
    · have hrl : (rangeI k).length ≤ 11 := by rw [rangeI_length]; omega
      go_wp2_with (at_builtin; refine wpList_pushG fI rfl (.tmp 39) (.tmp 41) rfl encI encI_length z5.val (lo := z5.val.heap.size) [(k : Int)] (rangeI k) rfl HR.out z.ext (Nat.le_refl _) z.ext.size rfl (by rfl) (by go_simp) rfl (oneIs' _) (by simp; omega) (by simp; omega) ?_; intro v7 z7 o7 _ _)
      have HO7 := Lib.hid o7; clear o7
      go_wp2_with fail
      go_roundw
      case rel => exact ⟨k + 1, by go_num, by omega, ⟨z7, rfl⟩, by rw [rangeI_succ]; exact HO7.out⟩
      case measure => simp [intOf] <;> omega
    · obtain rfl : k = l.length := by omega
      go_wp2_with fail
      refine (kp _ _ (HL.out.up (by repeat (first | (with_reducible exact Ext.refl _) | (with_reducible refine Ext.up ?_ _) | (with_reducible refine Ext.alloc ?_ _) | (with_reducible refine Ext.drew ?_) | (with_reducible refine Ext.setRow ?_ (by first | exact LeS.le | exact LeS.add _ | (simp; done) | (simp; omega)) _) | (with_reducible refine Ext.setCell ?_ (by first | exact LeS.le | exact LeS.add _ | (simp; done) | (simp; omega)) _)))) ((HR.out.sl encI_length).up (by repeat (first | (with_reducible exact Ext.refl _) | (with_reducible refine Ext.up ?_ _) | (with_reducible refine Ext.alloc ?_ _) | (with_reducible refine Ext.drew ?_) | (with_reducible refine Ext.setRow ?_ (by first | exact LeS.le | exact LeS.add _ | (simp; done) | (simp; omega)) _) | (with_reducible refine Ext.setCell ?_ (by first | exact LeS.le | exact LeS.add _ | (simp; done) | (simp; omega)) _))))).mono ?_; rintro e w' ⟨rfl, ⟨z6, rfl⟩⟩
      go_wp2_with fail
      refine (iLevelOrder_any l _ _ (HL.out.up (by repeat (first | (with_reducible exact Ext.refl _) | (with_reducible refine Ext.up ?_ _) | (with_reducible refine Ext.alloc ?_ _) | (with_reducible refine Ext.drew ?_) | (with_reducible refine Ext.setRow ?_ (by first | exact LeS.le | exact LeS.add _ | (simp; done) | (simp; omega)) _) | (with_reducible refine Ext.setCell ?_ (by first | exact LeS.le | exact LeS.add _ | (simp; done) | (simp; omega)) _))))).mono ?_; rintro e w' ⟨vo', rfl, ⟨z7, rfl⟩, oo'⟩
      have HV := Lib.hid (oo'.sl encI_length); clear oo'
      go_wp2_with fail
      refine (kv _ _ (HL.out.up (by repeat (first | (with_reducible exact Ext.refl _) | (with_reducible refine Ext.up ?_ _) | (with_reducible refine Ext.alloc ?_ _) | (with_reducible refine Ext.drew ?_) | (with_reducible refine Ext.setRow ?_ (by first | exact LeS.le | exact LeS.add _ | (simp; done) | (simp; omega)) _) | (with_reducible refine Ext.setCell ?_ (by first | exact LeS.le | exact LeS.add _ | (simp; done) | (simp; omega)) _)))) (HV.out.up (by repeat (first | (with_reducible exact Ext.refl _) | (with_reducible refine Ext.up ?_ _) | (with_reducible refine Ext.alloc ?_ _) | (with_reducible refine Ext.drew ?_) | (with_reducible refine Ext.setRow ?_ (by first | exact LeS.le | exact LeS.add _ | (simp; done) | (simp; omega)) _) | (with_reducible refine Ext.setCell ?_ (by first | exact LeS.le | exact LeS.add _ | (simp; done) | (simp; omega)) _))))).mono ?_; rintro e w' ⟨rfl, ⟨z8, rfl⟩⟩
      by_cases hl2 : l.length < 2
      · have hl2' : decide (l.length < 2) = true := by simpa using hl2
        have hl2'' : decide ((l.length : Int) < 2) = true := by simp; omega
        go_wp2_with fail
        go_ret
        exact ⟨rfl, (.of (by repeat (first | (with_reducible exact Ext.refl _) | (with_reducible refine Ext.up ?_ _) | (with_reducible refine Ext.alloc ?_ _) | (with_reducible refine Ext.drew ?_) | (with_reducible refine Ext.setRow ?_ (by first | exact LeS.le | exact LeS.add _ | (simp; done) | (simp; omega)) _) | (with_reducible refine Ext.setCell ?_ (by first | exact LeS.le | exact LeS.add _ | (simp; done) | (simp; omega)) _))))⟩
      have hl2' : decide (l.length < 2) = false := by simpa using hl2
      have hl2'' : decide ((l.length : Int) < 2) = false := by simp; omega
      have hrl : (rangeI l.length).length = l.length := rangeI_length _
      obtain ⟨g, cr, hg⟩ := Own.ne' HR.out (by intro e; rw [e] at hrl; simp at hrl; omega)
      subst hg
      obtain ⟨_, _, e9, _, hcr⟩ := (HR.out.sl encI_length).openc
      cases e9
      rw [hrl] at hcr
      rw [hrl] at HR ⊢
      by_cases hc2 : cr = 2
      · subst hc2
        have hlen : l.length = 2 := by omega
        rw [hlen] at HL HR kt ⊢
        clear kp kv hrl hcr hlen hl2 hl2' hl2'' hl11
        go_wp2_with (at_builtin; refine wpList_on (by rfl) ?_; refine wpList_catA fI rfl (.tmp 58) (.tmp 60) rfl encI encI_length z8.val (lo := z8.val.heap.size) [] [0, 0] rfl (Own.lit rfl (Nat.le_refl _) rfl rfl encI_length (by simp)) (by repeat (first | (with_reducible exact Ext.refl _) | (with_reducible refine Ext.up ?_ _) | (with_reducible refine Ext.alloc ?_ _) | (with_reducible refine Ext.drew ?_) | (with_reducible refine Ext.setRow ?_ (by first | exact LeS.le | exact LeS.add _ | (simp; done) | (simp; omega)) _) | (with_reducible refine Ext.setCell ?_ (by first | exact LeS.le | exact LeS.add _ | (simp; done) | (simp; omega)) _))) (Nat.le_refl _) (by simp) rfl (SL.nil _ _ _ _ _) (oneIs' _) (by simp) (by simp) ?_; intro v9 z9 o9 _ _)
        obtain ⟨p9, c9, rfl, _, _⟩ := (o9.sl encI_length).openc
        have O9 := Lib.hid (o9.sl encI_length); clear o9
        refine (kt [] _ _ (HL.out.up (by repeat (first | (with_reducible exact Ext.refl _) | (with_reducible refine Ext.up ?_ _) | (with_reducible refine Ext.alloc ?_ _) | (with_reducible refine Ext.drew ?_) | (with_reducible refine Ext.setRow ?_ (by first | exact LeS.le | exact LeS.add _ | (simp; done) | (simp; omega)) _) | (with_reducible refine Ext.setCell ?_ (by first | exact LeS.le | exact LeS.add _ | (simp; done) | (simp; omega)) _)))) O9.out).mono ?_; rintro e w' ⟨rfl, ⟨z10, rfl⟩⟩
        go_wp2_with fail
        go_ret
        exact ⟨rfl, (.of (by repeat (first | (with_reducible exact Ext.refl _) | (with_reducible refine Ext.up ?_ _) | (with_reducible refine Ext.alloc ?_ _) | (with_reducible refine Ext.drew ?_) | (with_reducible refine Ext.setRow ?_ (by first | exact LeS.le | exact LeS.add _ | (simp; done) | (simp; omega)) _) | (with_reducible refine Ext.setCell ?_ (by first | exact LeS.le | exact LeS.add _ | (simp; done) | (simp; omega)) _))))⟩
      · have HT := Lib.hid (show SL (RF encI) 1 z.val (.slice (some ⟨g, 2, none⟩) (l.length - 2) (cr - 2)) ((rangeI l.length).drop 2) by
          have h := SL.sub (HR.out.sl encI_length) (i := 2) (m := l.length - 2) (by rw [hrl]; omega) (cap' := cr - 2) (by omega)
          rw [List.take_of_length_le (by rw [List.length_drop, hrl]; omega)] at h
          exact h)
        go_wp2_with (at_builtin; refine wpList_on (by rfl) ?_; refine wpList_catA fI rfl (.tmp 58) (.tmp 60) rfl encI encI_length z8.val (lo := z8.val.heap.size) ((rangeI l.length).drop 2) [0, 0] rfl (Own.lit rfl (Nat.le_refl _) rfl rfl encI_length (by simp)) (by repeat (first | (with_reducible exact Ext.refl _) | (with_reducible refine Ext.up ?_ _) | (with_reducible refine Ext.alloc ?_ _) | (with_reducible refine Ext.drew ?_) | (with_reducible refine Ext.setRow ?_ (by first | exact LeS.le | exact LeS.add _ | (simp; done) | (simp; omega)) _) | (with_reducible refine Ext.setCell ?_ (by first | exact LeS.le | exact LeS.add _ | (simp; done) | (simp; omega)) _))) (Nat.le_refl _) (by simp) rfl (HT.out.up (by repeat (first | (with_reducible exact Ext.refl _) | (with_reducible refine Ext.up ?_ _) | (with_reducible refine Ext.alloc ?_ _) | (with_reducible refine Ext.drew ?_) | (with_reducible refine Ext.setRow ?_ (by first | exact LeS.le | exact LeS.add _ | (simp; done) | (simp; omega)) _) | (with_reducible refine Ext.setCell ?_ (by first | exact LeS.le | exact LeS.add _ | (simp; done) | (simp; omega)) _)))) (oneIs' _) (by simp [hrl]; omega) (by simp [hrl]; omega) ?_; intro v9 z9 o9 _ _)
        obtain ⟨p9, c9, rfl, _, _⟩ := (o9.sl encI_length).openc
        have O9 := Lib.hid (o9.sl encI_length); clear o9
        refine (kt ((rangeI l.length).drop 2) _ _ (HL.out.up (by repeat (first | (with_reducible exact Ext.refl _) | (with_reducible refine Ext.up ?_ _) | (with_reducible refine Ext.alloc ?_ _) | (with_reducible refine Ext.drew ?_) | (with_reducible refine Ext.setRow ?_ (by first | exact LeS.le | exact LeS.add _ | (simp; done) | (simp; omega)) _) | (with_reducible refine Ext.setCell ?_ (by first | exact LeS.le | exact LeS.add _ | (simp; done) | (simp; omega)) _)))) O9.out).mono ?_; rintro e w' ⟨rfl, ⟨z10, rfl⟩⟩
        go_wp2_with fail
        go_ret
        exact ⟨rfl, (.of (by repeat (first | (with_reducible exact Ext.refl _) | (with_reducible refine Ext.up ?_ _) | (with_reducible refine Ext.alloc ?_ _) | (with_reducible refine Ext.drew ?_) | (with_reducible refine Ext.setRow ?_ (by first | exact LeS.le | exact LeS.add _ | (simp; done) | (simp; omega)) _) | (with_reducible refine Ext.setCell ?_ (by first | exact LeS.le | exact LeS.add _ | (simp; done) | (simp; omega)) _))))⟩
end Go.Proofs.Ytkboefmkfpnpjaa
namespace Go.Proofs.Ytkboefmkfpnpjaa
open Go Go.RowKit Go.Proofs

theorem runAll_app (v : List Int) (P Q : List Actn) : runAll v (P ++ Q) = ((runAll (runAll v P).1 Q).1, (runAll v P).2 ++ (runAll (runAll v P).1 Q).2) := by
  have h1 : runAll v (P ++ Q) = Q.foldl runStep (runAll v P) := by unfold runAll; rw [List.foldl_append]
  rw [h1]
  exact foldl_run Q (runAll v P).1 (runAll v P).2
theorem runAll_at (v : List Int) {l : List Actn} {k : Nat} {x : Actn} (h : l[k]? = some x) : (runAll v l).2[k]? = some (runV (runAll v (l.take k)).1 x) := by
  obtain ⟨h1, h2⟩ := List.getElem?_eq_some_iff.1 h
  have hs : l.take k ++ x :: l.drop (k + 1) = l := by rw [← h2, ← List.drop_eq_getElem_cons h1, List.take_append_drop]
  have key : ∀ P Q : List Actn, P.length = k → (runAll v (P ++ x :: Q)).2[k]? = some (runV (runAll v P).1 x) := by
    intro P Q hP
    rw [runAll_app, runAll_cons]
    have hl : (runAll v P).2.length = k := by rw [runAll_len, hP]
    rw [List.getElem?_append_right (by omega), hl, Nat.sub_self]
    rfl
  have := key (l.take k) (l.drop (k + 1)) (by rw [List.length_take]; omega)
  rwa [hs] at this
/-- The versions of the first k effects. -/
def versE (E : List Eff) : Nat → List Ver
  | 0 => []
  | k + 1 => putV (versE E k) k (match E[k]? with | some e => e.w | none => [])
theorem versE_next {E : List Eff} {k : Nat} {e : Eff} (h : E[k]? = some e) : versE E (k + 1) = putV (versE E k) k e.w := by rw [versE, h]
theorem versE_by (E : List Eff) : ∀ (k : Nat), ∀ x ∈ versE E k, 0 ≤ x.b ∧ x.b < k
  | 0, x, h => by cases h
  | k + 1, x, h => by
    rw [versE] at h
    generalize (match E[k]? with | some e => e.w | none => []) = u at h
    have := (putTo_perm (k : Int) u _).mem_iff.1 h
    rcases List.mem_append.1 this with h | h
    · have := versE_by E k x (dropV_ne h).1; omega
    · obtain ⟨e, _, rfl⟩ := List.mem_map.1 h
      show 0 ≤ (k : Int) ∧ (k : Int) < _
      omega
theorem versE_drop (E : List Eff) (k : Nat) : dropV (versE E k) k = versE E k := by
  unfold dropV
  rw [List.filter_eq_self]
  intro x hx
  have := versE_by E k x hx
  simp; omega
theorem versE_to (E : List Eff) (k : Nat) : versE E (k + 1) = putTo k (versE E k) (match E[k]? with | some e => e.w | none => []) := by
  rw [versE, putV, versE_drop]
theorem okW_at {E : List Eff} (h : ∀ e ∈ E, entsOk 0 e.w = true) (k : Nat) : entsOk 0 (match E[k]? with | some e => e.w | none => []) = true := by
  cases hk : E[k]? with
  | none => rfl
  | some e => exact h e (List.mem_of_getElem? hk)
theorem versE_ok {E : List Eff} (h : ∀ e ∈ E, entsOk 0 e.w = true) : ∀ k, k ≤ 10 → versOk (versE E k) = true
  | 0, _ => rfl
  | k + 1, hk => by
    rw [versE]
    refine putV_ok ?_
    simp only [putOk, versE_ok h k (by omega), okW_at h k, Bool.true_and, Bool.and_true, inR_iff]
    omega
theorem versE_putOk {E : List Eff} (h : ∀ e ∈ E, entsOk 0 e.w = true) {k : Nat} {e : Eff} (hk : k < 10) (he : E[k]? = some e) : putOk (versE E k) k e.w = true := by
  simp only [putOk, versE_ok h k (by omega), h e (List.mem_of_getElem? he), Bool.true_and, Bool.and_true, inR_iff]
  omega
theorem versE_len {E : List Eff} (h : ∀ e ∈ E, entsOk 0 e.w = true) : ∀ k, (versE E k).length ≤ 32 * k
  | 0 => by simp [versE]
  | k + 1 => by
    rw [versE]
    have h1 := putV_le (versE E k) k (match E[k]? with | some e => e.w | none => [])
    have h2 := entsOk_len (okW_at h k)
    have h3 := versE_len h k
    omega
theorem readV_ins_no {base key b : Int} {x : Ver} (h : ∀ p, rdStep key b p x = p) (l : List Ver) : readV base (insV x l) key b = readV base l key b := by
  unfold readV insV
  rw [List.foldl_append, List.foldl_cons, h, ← List.foldl_append, List.takeWhile_append_dropWhile]
theorem readV_putTo_no {base key b by_ : Int} : ∀ (u : List Ent) (out : List Ver), (∀ e ∈ u, e.k ≠ key ∨ ¬ by_ < b) → readV base (putTo by_ out u) key b = readV base out key b
  | [], _, _ => rfl
  | e :: u, out, h => by
    show readV base (putTo by_ (insV (mkV by_ e) out) u) key b = _
    rw [readV_putTo_no u _ fun x hx => h x (by simp [hx]), readV_ins_no]
    intro p
    rcases h e (by simp) with h1 | h1
    · exact rdStep_no1 h1
    · exact rdStep_no2 h1
theorem foldl_no {key b : Int} : ∀ (B : List Ver) (p : Int × Int), (∀ y ∈ B, ¬ (y.k = key ∧ y.b < b)) → B.foldl (rdStep key b) p = p
  | [], _, _ => rfl
  | y :: B, p, h => by
    rw [List.foldl_cons]
    have : rdStep key b p y = p := if_neg (h y (by simp))
    rw [this]
    exact foldl_no B p fun z hz => h z (by simp [hz])
theorem readV_last {base key b : Int} {l : List Ver} {x : Ver} (hs : l.Pairwise fun a b => verLt a b = true) (hx : x ∈ l) (hk : x.k = key) (hb : x.b < b) (hm : ∀ y ∈ l, y.k = key → y.b < b → y.b ≤ x.b) : readV base l key b = (x.v, x.b) := by
  obtain ⟨A, B, rfl⟩ := List.append_of_mem hx
  rw [List.pairwise_append, List.pairwise_cons] at hs
  unfold readV
  rw [List.foldl_append, List.foldl_cons, rdStep_yes hk hb]
  refine foldl_no B _ fun y hy ⟨h1, h2⟩ => ?_
  have h3 := hs.2.1.1 y hy
  rw [verLt_iff] at h3
  have := hm y (by simp [hy]) h1 h2
  omega
theorem readV_more {base key b c : Int} {l : List Ver} (h : ∀ x ∈ l, x.b < b) (hbc : b ≤ c) : readV base l key c = readV base l key b := by
  have key' : ∀ (l : List Ver) (p : Int × Int), (∀ x ∈ l, x.b < b) → l.foldl (rdStep key c) p = l.foldl (rdStep key b) p := by
    intro l
    induction l with
    | nil => intro p _; rfl
    | cons x l ih =>
      intro p h
      have hx := h x (by simp)
      have e : rdStep key c p x = rdStep key b p x := by
        unfold rdStep
        by_cases hk : x.k = key
        · rw [if_pos ⟨hk, by omega⟩, if_pos ⟨hk, hx⟩]
        · rw [if_neg fun a => hk a.1, if_neg fun a => hk a.1]
      rw [List.foldl_cons, List.foldl_cons, e, ih _ fun y hy => h y (by simp [hy])]
  exact key' l (base, -1) h
theorem versE_early (E : List Eff) (base key : Int) {n : Nat} : ∀ (d : Nat), readV base (versE E (n + d)) key n = readV base (versE E n) key n
  | 0 => rfl
  | d + 1 => by
    rw [← Nat.add_assoc, versE_to, readV_putTo_no, versE_early E base key d]
    intro e _
    right; omega
theorem versE_read {s : List Ent} {l : List Actn} (hs : entsOk 1 s = true) (hl : ∀ x ∈ l, x.ok = true) (hlen : l.length ≤ 10) {key : Nat} (hkey : key < 32) :
    ∀ n, n ≤ l.length → (readV (atK s key) (versE (runAll (valsOf s) l).2 n) key n).1 = (runAll (valsOf s) (l.take n)).1.getD key 0
  | 0, _ => by
    show atK s key = (valsOf s).getD key 0
    rw [List.getD_eq_getElem?_getD, valsOf_get hs hkey]; rfl
  | n + 1, hn => by
    obtain ⟨x, hx⟩ := getElem?_some_of_lt (l := l) (k := n) (by omega)
    have hvi : valsIn (valsOf s) := valsOf_in (entsOk_least (by decide) hs)
    have hE := runAll_at (valsOf s) hx
    have ih := versE_read hs hl hlen hkey n (by omega)
    have hW : ∀ e ∈ (runAll (valsOf s) l).2, entsOk 0 e.w = true := by
      intro e he
      obtain ⟨i, hi⟩ := List.getElem?_of_mem he
      have hil : i < l.length := by have := (List.getElem?_eq_some_iff.1 hi).1; rwa [runAll_len] at this
      obtain ⟨y, hy⟩ := getElem?_some_of_lt hil
      rw [runAll_at (valsOf s) hy] at hi
      cases hi
      exact runV_ok (runAll_in hvi fun z hz => hl z (List.mem_of_mem_take hz)) (hl y (List.mem_of_getElem? hy))
    have hby := versE_by (runAll (valsOf s) l).2 n
    have hby1 := versE_by (runAll (valsOf s) l).2 (n + 1)
    have hok1 := vers_sorted (versE_ok hW (n + 1) (by omega))
    have hto := versE_to (runAll (valsOf s) l).2 n
    rw [hE] at hto
    have hVi : valsIn (runAll (valsOf s) (l.take n)).1 := runAll_in hvi fun z hz => hl z (List.mem_of_mem_take hz)
    have hVl : (runAll (valsOf s) (l.take n)).1.length = 32 := hVi.1
    have hu := runV_ok hVi (hl x (List.mem_of_getElem? hx))
    have hstep : (runAll (valsOf s) (l.take (n + 1))).1 = vsets (runAll (valsOf s) (l.take n)).1 (runV (runAll (valsOf s) (l.take n)).1 x).w := by rw [runAll_snoc _ hx]; rfl
    rw [hstep, List.getD_eq_getElem?_getD, vsets_get _ _ key (asc_of hu) (fun y hy => (entsOk_mem hu hy).1) (by omega)]
    dsimp only at hto
    generalize (runV (runAll (valsOf s) (l.take n)).1 x).w = u at *
    generalize (runAll (valsOf s) (l.take n)).1 = V at *
    generalize versE (runAll (valsOf s) l).2 (n + 1) = W1 at *
    generalize versE (runAll (valsOf s) l).2 n = W0 at *
    cases hf : u.find? (fun e => e.k == (key : Int)) with
    | none =>
      rw [List.find?_eq_none] at hf
      rw [hto, readV_putTo_no u W0 (fun e he => .inl (by have := hf e he; simpa using this)), readV_more (b := (n : Int)) (fun y hy => (hby y hy).2) (by omega), ih, List.getD_eq_getElem?_getD]
    | some y =>
      have hy := List.mem_of_find?_eq_some hf
      have hyk : y.k = key := by have := List.find?_some hf; simpa using this
      have hmem : mkV n y ∈ W1 := by
        rw [hto]
        exact (putTo_perm (n : Int) u W0).mem_iff.2 (List.mem_append.2 (.inr (List.mem_map.2 ⟨y, hy, rfl⟩)))
      rw [readV_last hok1 hmem hyk (by show (n : Int) < _; omega) (fun z hz _ _ => by have := hby1 z hz; show z.b ≤ (n : Int); omega)]
      rfl
theorem serOkW {s : List Ent} {l : List Actn} (hs : entsOk 1 s = true) (hl : ∀ x ∈ l, x.ok = true) : ∀ e ∈ (runAll (valsOf s) l).2, entsOk 0 e.w = true := by
  have hvi : valsIn (valsOf s) := valsOf_in (entsOk_least (by decide) hs)
  intro e he
  obtain ⟨i, hi⟩ := List.getElem?_of_mem he
  have hil : i < l.length := by have := (List.getElem?_eq_some_iff.1 hi).1; rwa [runAll_len] at this
  obtain ⟨y, hy⟩ := getElem?_some_of_lt hil
  rw [runAll_at (valsOf s) hy] at hi
  cases hi
  exact runV_ok (runAll_in hvi fun z hz => hl z (List.mem_of_mem_take hz)) (hl y (List.mem_of_getElem? hy))
/-- An action reads in all versions what it read in the run. -/
theorem serV_read {s : List Ent} {l : List Actn} (hs : entsOk 1 s = true) (hl : ∀ x ∈ l, x.ok = true) (hlen : l.length ≤ 10) {k : Nat} {e : Eff} (he : (runAll (valsOf s) l).2[k]? = some e) {y : Ent} (hy : y ∈ e.r) :
    (rdV s (versE (runAll (valsOf s) l).2 l.length) y.k k).1 = y.v := by
  have hvi : valsIn (valsOf s) := valsOf_in (entsOk_least (by decide) hs)
  have hk : k < l.length := by have := (List.getElem?_eq_some_iff.1 he).1; rwa [runAll_len] at this
  obtain ⟨x, hx⟩ := getElem?_some_of_lt hk
  rw [runAll_at (valsOf s) hx] at he
  cases he
  have hVi : valsIn (runAll (valsOf s) (l.take k)).1 := runAll_in hvi fun z hz => hl z (List.mem_of_mem_take hz)
  obtain ⟨k0, k1, hv⟩ := rds_at (hl x (List.mem_of_getElem? hx)) hVi.1 y hy
  have hr := versE_read hs hl hlen (key := y.k.toNat) (by omega) k (by omega)
  rw [List.getD_eq_getElem?_getD, hv, show ((y.k.toNat : Nat) : Int) = y.k from by omega] at hr
  have hE := versE_early (runAll (valsOf s) l).2 (atK s y.k) y.k (n := k) (l.length - k)
  rw [show k + (l.length - k) = l.length from by omega] at hE
  have hV := versE_ok (serOkW hs hl) l.length hlen
  rw [rdV_yes (by simp only [rdOk, hs, hV, Bool.true_and, Bool.and_eq_true, inR_iff]; omega), hE, hr]
  rfl
/-- All versions leave the run's store. -/
theorem serV_last {s : List Ent} {l : List Actn} (hs : entsOk 1 s = true) (hl : ∀ x ∈ l, x.ok = true) (hlen : l.length ≤ 10) :
    lastR s (versE (runAll (valsOf s) l).2 l.length) = storeOf (runAll (valsOf s) l).1 := by
  have hvi : valsIn (valsOf s) := valsOf_in (entsOk_least (by decide) hs)
  have hV := versE_ok (serOkW hs hl) l.length hlen
  rw [lastR_yes (by rw [hs, hV]; rfl)]
  congr 1
  have hRl : (runAll (valsOf s) l).1.length = 32 := (runAll_in hvi hl).1
  apply List.ext_getElem?
  intro i
  by_cases hi : i < 32
  · have hr := versE_read hs hl hlen hi l.length (Nat.le_refl _)
    rw [List.take_length, List.getD_eq_getElem?_getD] at hr
    obtain ⟨c, hc⟩ := getElem?_some_of_lt (l := (runAll (valsOf s) l).1) (k := i) (by omega)
    rw [hc] at hr
    rw [lastV_get _ _ hi, hc, readV_more (b := (l.length : Int)) (fun y hy => (versE_by _ _ y hy).2) (by omega), hr]
    rfl
  · rw [List.getElem?_eq_none (by rw [lastV_length]; omega), List.getElem?_eq_none (by omega)]
end Go.Proofs.Ytkboefmkfpnpjaa
