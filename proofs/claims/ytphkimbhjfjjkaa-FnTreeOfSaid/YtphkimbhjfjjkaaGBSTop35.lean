/- Plain laws: lists of versions: parts, repeats, what is read of a part. Walks: drawn versions. Walks: lists that are compared; drawn arguments of the laws on versions. Walks: the laws' sameBlock and sameTree, at equal trees; the law FnTreeOf. -/
import Derived.Test.YtphkimbhjfjjkaaGBSTop34
import Derived.Test.YtphkimbhjfjjkaaGBSTop01
import Derived.Test.YtphkimbhjfjjkaaGBSTop22
import Derived.Test.YtphkimbhjfjjkaaGBSTop25
import Derived.Test.YtphkimbhjfjjkaaGBSTop32
import Derived.Test.YtphkimbhjfjjkaaGBSTop15
set_option linter.unusedSimpArgs false
set_option linter.unusedVariables false
namespace Go.Proofs.Ytphkimbhjfjjkaa
open Go Go.RowKit

theorem versOk_of {l : List Ver} (hs : l.Pairwise fun a b => verLt a b = true) (hin : ∀ x ∈ l, verIn x = true) : versOk l = true := by
  refine upTo_iff.2 fun i hi => ?_
  obtain ⟨x, hx⟩ := getElem?_some_of_lt hi
  have hm := hin x (List.mem_of_getElem? hx)
  by_cases h0 : 0 < i
  · obtain ⟨y, hy⟩ := getElem?_some_of_lt (show i - 1 < l.length by omega)
    rw [verAt_next hx h0 hy, Bool.and_eq_true]
    refine ⟨hm, ?_⟩
    rw [List.pairwise_iff_getElem] at hs
    obtain ⟨h1, h2⟩ := List.getElem?_eq_some_iff.1 hx
    obtain ⟨h3, h4⟩ := List.getElem?_eq_some_iff.1 hy
    have := hs (i - 1) i h3 h1 (by omega)
    rw [h2, h4] at this
    exact this
  · rw [verAt_first hx h0]; exact hm
theorem versOk_iff {l : List Ver} : versOk l = true ↔ l.Pairwise (fun a b => verLt a b = true) ∧ ∀ x ∈ l, verIn x = true :=
  ⟨fun h => ⟨vers_sorted h, fun _ hx => versOk_mem h hx⟩, fun h => versOk_of h.1 h.2⟩
theorem versOk_sub {l m : List Ver} (h : versOk l = true) (hs : m.Sublist l) : versOk m = true :=
  versOk_of ((vers_sorted h).sublist hs) fun _ hx => versOk_mem h (hs.subset hx)
theorem versOk_drop {l : List Ver} (h : versOk l = true) (n : Nat) : versOk (l.drop n) = true := versOk_sub h (List.drop_sublist _ _)
theorem verLt_irr (x : Ver) : verLt x x = false := by
  rcases h : verLt x x with _ | _
  · rfl
  · rw [verLt_iff] at h; omega
theorem versOk_twice {l : List Ver} {x : Ver} (hx : x ∈ l) : versOk (l ++ [x]) = false := by
  rcases h : versOk (l ++ [x]) with _ | _
  · rfl
  · have := vers_sorted h
    rw [List.pairwise_append] at this
    have := this.2.2 x hx x (by simp)
    rw [verLt_irr] at this; cases this
theorem versOk_dropV {l : List Ver} (h : versOk l = true) (b : Int) : versOk (dropV l b) = true := versOk_sub h List.filter_sublist
theorem dropV_twice (l : List Ver) (b : Int) : dropV (dropV l b) b = dropV l b := by
  unfold dropV
  rw [List.filter_filter]; simp
theorem putV_ok {l : List Ver} {by_ : Int} {u : List Ent} (h : putOk l by_ u = true) : versOk (putV l by_ u) = true := by
  simp only [putOk, Bool.and_eq_true, inR_iff] at h
  obtain ⟨h1, ⟨b0, b1⟩, hu⟩ := h
  refine versOk_of (putV_sorted (vers_sorted h1) (asc_of hu)) fun x hx => ?_
  have : x ∈ dropV l by_ ++ u.map (mkV by_) := (putTo_perm by_ u _).mem_iff.1 hx
  rcases List.mem_append.1 this with h | h
  · exact versOk_mem h1 (dropV_ne h).1
  · obtain ⟨e, he, rfl⟩ := List.mem_map.1 h
    have := entsOk_mem hu he
    simp only [verIn, mkV, Bool.and_eq_true, inR_iff]
    omega
/-! ### What is read -/
def earlyV (l : List Ver) (by_ : Int) : List Ver := l.filter fun x => decide (x.b < by_)
theorem earlyV_snoc_in {l : List Ver} {k : Nat} {x : Ver} {b : Int} (h : l[k]? = some x) (hb : x.b < b) : earlyV (l.take (k + 1)) b = earlyV (l.take k) b ++ [x] := by
  rw [List.take_add_one, h]; simp [earlyV, hb]
theorem earlyV_snoc_out {l : List Ver} {k : Nat} {x : Ver} {b : Int} (h : l[k]? = some x) (hb : ¬ x.b < b) : earlyV (l.take (k + 1)) b = earlyV (l.take k) b := by
  rw [List.take_add_one, h]; simp [earlyV, hb]
theorem earlyV_le (l : List Ver) (b : Int) : (earlyV l b).length ≤ l.length := List.length_filter_le _ _
theorem earlyV_ok {l : List Ver} (h : versOk l = true) (b : Int) : versOk (earlyV l b) = true := versOk_sub h List.filter_sublist
theorem readV_early (base : Int) (l : List Ver) (key b : Int) : readV base (earlyV l b) key b = readV base l key b := by
  have key' : ∀ (l : List Ver) (p : Int × Int), (earlyV l b).foldl (rdStep key b) p = l.foldl (rdStep key b) p := by
    intro l
    induction l with
    | nil => intro p; rfl
    | cons x l ih =>
      intro p
      by_cases hx : x.b < b
      · have : earlyV (x :: l) b = x :: earlyV l b := by simp [earlyV, hx]
        rw [this, List.foldl_cons, List.foldl_cons, ih]
      · have : earlyV (x :: l) b = earlyV l b := by simp [earlyV, hx]
        rw [this, List.foldl_cons, ih, rdStep_no2 hx]
  exact key' l (base, -1)
theorem readV_inv {base : Int} {l : List Ver} {key b : Int} (hl : versOk l = true) (hb : 0 ≤ b) (h0 : 0 ≤ base ∧ base ≤ 1000000) :
    (0 ≤ (readV base l key b).1 ∧ (readV base l key b).1 ≤ 1000000) ∧ ((readV base l key b).2 = -1 ∧ (readV base l key b).1 = base ∨ 0 ≤ (readV base l key b).2) ∧ (readV base l key b).2 < b ∧ -1 ≤ (readV base l key b).2 := by
  have key' : ∀ (l : List Ver) (p : Int × Int), (∀ x ∈ l, verIn x = true) → ((0 ≤ p.1 ∧ p.1 ≤ 1000000) ∧ (p.2 = -1 ∧ p.1 = base ∨ 0 ≤ p.2) ∧ p.2 < b ∧ -1 ≤ p.2) →
      (0 ≤ (l.foldl (rdStep key b) p).1 ∧ (l.foldl (rdStep key b) p).1 ≤ 1000000) ∧ ((l.foldl (rdStep key b) p).2 = -1 ∧ (l.foldl (rdStep key b) p).1 = base ∨ 0 ≤ (l.foldl (rdStep key b) p).2) ∧ (l.foldl (rdStep key b) p).2 < b ∧ -1 ≤ (l.foldl (rdStep key b) p).2 := by
    intro l
    induction l with
    | nil => intro p _ h; exact h
    | cons x l ih =>
      intro p hin h
      rw [List.foldl_cons]
      refine ih _ (fun y hy => hin y (by simp [hy])) ?_
      have hx := hin x (by simp)
      simp only [verIn, Bool.and_eq_true, inR_iff] at hx
      unfold rdStep
      split
      · dsimp only; omega
      · exact h
  exact key' l (base, -1) (fun _ hx => versOk_mem hl hx) ⟨h0, .inl ⟨rfl, rfl⟩, by show (-1 : Int) < b; omega, by show (-1 : Int) ≤ -1; decide⟩
theorem rdV_neg {s : List Ent} {l : List Ver} {key by_ : Int} (h : (rdV s l key by_).1 < 0) : rdOk s l key by_ = false := by
  rcases hr : rdOk s l key by_ with _ | _
  · rfl
  · exfalso
    rw [rdV_yes hr] at h
    simp only [rdOk, Bool.and_eq_true, inR_iff] at hr
    have := (readV_inv (base := atK s key) (key := key) (b := by_) hr.2.1 (by omega) (atK_in hr.1 (by omega) key)).1.1
    omega
theorem lastV_in {s : List Ent} {l : List Ver} (hs : entsOk 1 s = true) (hl : versOk l = true) : valsIn (lastV s l) := by
  refine ⟨lastV_length s l, fun x hx => ?_⟩
  obtain ⟨i, _, rfl⟩ := List.mem_map.1 hx
  exact (readV_inv hl (by omega) (atK_in hs (by omega) _)).1
theorem lastV_nil {s : List Ent} (hs : entsOk 1 s = true) : lastV s [] = valsOf s := by
  apply List.ext_getElem?
  intro i
  by_cases hi : i < 32
  · rw [lastV_get s [] hi, valsOf_get hs hi]; rfl
  · rw [List.getElem?_eq_none (by rw [lastV_length]; omega), List.getElem?_eq_none (by rw [valsOf_length]; omega)]
theorem lastR_nil {s : List Ent} (hs : entsOk 1 s = true) : lastR s [] = s := by
  rw [lastR_yes (by rw [hs]; rfl), lastV_nil hs, storeOf_valsOf hs]
theorem atK_lastR {s : List Ent} {l : List Ver} (hs : entsOk 1 s = true) (hl : versOk l = true) {n : Nat} (hn : n < 32) : atK (lastR s l) n = (rdV s l n 10).1 := by
  rw [lastR_yes (by rw [hs, hl]; rfl), atK_storeOf (lastV_in hs hl) hn, rdV_yes (by simp only [rdOk, hs, hl, Bool.true_and, Bool.and_eq_true, inR_iff]; omega), List.getD_eq_getElem?_getD, lastV_get s l hn]
  rfl
theorem lastR_ok {s : List Ent} {l : List Ver} (hs : entsOk 1 s = true) (hl : versOk l = true) : entsOk 1 (lastR s l) = true := by
  rw [lastR_yes (by rw [hs, hl]; rfl)]; exact storeOf_ok (lastV_in hs hl)
end Go.Proofs.Ytphkimbhjfjjkaa
namespace Go.Proofs.Ytphkimbhjfjjkaa
open Go Go.RowKit Go.Proofs

end Go.Proofs.Ytphkimbhjfjjkaa
namespace Go.Proofs.Ytphkimbhjfjjkaa
open Go Go.RowKit Go.Proofs

set_option maxHeartbeats 1000000 in
theorem sameStore_same (l : List Ent) (v v' : Value) (w : World) (h : SL (RF Ent.enc) 2 w v l) (h' : SL (RF Ent.enc) 2 w v' l) :
    Calls Try.prog 31 #[v, v'] w fun e w' => e = .returned (.bool true) ∧ Up w w' := by
  obtain ⟨a, cap, rfl, hlen, hc⟩ := h.open
  obtain ⟨a', cap', rfl, _, hc'⟩ := h'.open
  go_enter Try.func31, Try.ntmps31
  go_wp2_with fail
  go_loopw [5] (fun s5 wr => ∃ (k : Nat), s5 = .int .i64 k ∧ k ≤ l.length ∧ Up w wr) (fun s5 _ => l.length - (intOf s5).toNat)
  case atStart => exact ⟨0, rfl, Nat.zero_le _, .of (Ext.refl _)⟩
  case round =>
    obtain ⟨k, rfl, hk, ⟨z, rfl⟩⟩ := hrel
    by_cases hlt : k < l.length
    · obtain ⟨x, hxk⟩ := getElem?_some_of_lt hlt
      obtain ⟨b, off, rfl, hb, hcc⟩ := hc k x hxk
      obtain ⟨b', off', rfl, hb', hdd⟩ := hc' k x hxk
      have c0 : w.cell? ⟨b, off + k * 2, none⟩ = some (.int .i64 x.k) := hcc 0 _ rfl
      have d0 : w.cell? ⟨b', off' + k * 2, none⟩ = some (.int .i64 x.k) := hdd 0 _ rfl
      have c1 : w.cell? ⟨b, off + k * 2 + 1, none⟩ = some (.int .i64 x.v) := hcc 1 _ rfl
      have d1 : w.cell? ⟨b', off' + k * 2 + 1, none⟩ = some (.int .i64 x.v) := hdd 1 _ rfl
      have k0 : (0 : Int) ≤ (k : Int) := by omega
      clear hc hcc hc' hdd hxk
      go_wp2_with fail
      (refine wp_region_up (by kernel_rfl) (by kernel_rfl) ?_; (repeat (go_big_quiet_step (fail))); refine wpQuiet_nil ?_; intro _ hw'; obtain ⟨zq, hw''⟩ := hw'; subst hw'')
      go_wp2_with fail
      go_roundw
      case rel => exact ⟨k + 1, by go_num, by omega, (.of (by repeat (first | (with_reducible exact Ext.refl _) | (with_reducible refine Ext.up ?_ _) | (with_reducible refine Ext.alloc ?_ _) | (with_reducible refine Ext.drew ?_) | (with_reducible refine Ext.setRow ?_ (by first | exact LeS.le | exact LeS.add _ | (simp; done) | (simp; omega)) _) | (with_reducible refine Ext.setCell ?_ (by first | exact LeS.le | exact LeS.add _ | (simp; done) | (simp; omega)) _))))⟩
      case measure => simp [intOf]; omega
    · go_wp2_with fail
      go_ret
      exact ⟨rfl, z, rfl⟩
end Go.Proofs.Ytphkimbhjfjjkaa
namespace Go.Proofs.Ytphkimbhjfjjkaa
open Go Go.RowKit Go.Proofs

set_option maxRecDepth 100000 in
set_option maxHeartbeats 2000000 in
theorem sameBlock_same (x : Blk) (l : List Actn) (v v' : Value) (w : World) (h : SL (RF Actn.enc) 4 w v l) (h' : SL (RF Actn.enc) 4 w v' l) :
    Calls Try.prog 17 #[.agg #[.int .i64 x.bf, .int .i64 x.ht, .int .i64 x.vw, v, .int .i64 x.rt, .int .i64 x.ef], .agg #[.int .i64 x.bf, .int .i64 x.ht, .int .i64 x.vw, v', .int .i64 x.rt, .int .i64 x.ef]] w fun e w' => e = .returned (.bool true) ∧ Up w w' := by
  obtain ⟨a, cap, rfl, hlen, hc⟩ := h.open
  obtain ⟨a', cap', rfl, _, hc'⟩ := h'.open
  clear h h'
  go_enter Try.func17, Try.ntmps17
  go_wp2_with fail
  go_loopw [5] (fun s5 wr => ∃ (k : Nat), s5 = .int .i64 k ∧ k ≤ l.length ∧ Up ((w.alloc (.cells #[.int .i64 x.bf, .int .i64 x.ht, .int .i64 x.vw, .slice a l.length cap, .int .i64 x.rt, .int .i64 x.ef] 27)).alloc (.cells #[.int .i64 x.bf, .int .i64 x.ht, .int .i64 x.vw, .slice a' l.length cap', .int .i64 x.rt, .int .i64 x.ef] 27)) wr) (fun s5 _ => l.length - (intOf s5).toNat)
  case atStart => exact ⟨0, rfl, Nat.zero_le _, .of (Ext.refl _)⟩
  case round =>
    obtain ⟨k, rfl, hk, ⟨z, rfl⟩⟩ := hrel
    by_cases hlt : k < l.length
    · obtain ⟨y, hyk⟩ := getElem?_some_of_lt hlt
      obtain ⟨b, off, rfl, hb, hcc⟩ := hc k y hyk
      obtain ⟨b', off', rfl, hb', hdd⟩ := hc' k y hyk
      have c0 : w.cell? ⟨b, off + k * 4, none⟩ = some (.int .i64 y.kind) := hcc 0 _ rfl
      have d0 : w.cell? ⟨b', off' + k * 4, none⟩ = some (.int .i64 y.kind) := hdd 0 _ rfl
      have c1 : w.cell? ⟨b, off + k * 4 + 1, none⟩ = some (.int .i64 y.src) := hcc 1 _ rfl
      have d1 : w.cell? ⟨b', off' + k * 4 + 1, none⟩ = some (.int .i64 y.src) := hdd 1 _ rfl
      have c2 : w.cell? ⟨b, off + k * 4 + 2, none⟩ = some (.int .i64 y.dst) := hcc 2 _ rfl
      have d2 : w.cell? ⟨b', off' + k * 4 + 2, none⟩ = some (.int .i64 y.dst) := hdd 2 _ rfl
      have c3 : w.cell? ⟨b, off + k * 4 + 3, none⟩ = some (.int .i64 y.amt) := hcc 3 _ rfl
      have d3 : w.cell? ⟨b', off' + k * 4 + 3, none⟩ = some (.int .i64 y.amt) := hdd 3 _ rfl
      have k0 : (0 : Int) ≤ (k : Int) := by omega
      clear hc hcc hc' hdd hyk
      go_wp2_with fail
      (refine wp_region_up (by kernel_rfl) (by kernel_rfl) ?_; (repeat (go_big_quiet_step (fail))); refine wpQuiet_nil ?_; intro _ hw'; obtain ⟨zq, hw''⟩ := hw'; subst hw'')
      go_wp2_with fail
      go_roundw
      case rel => exact ⟨k + 1, by go_num, by omega, (.of (by repeat (first | (with_reducible exact Ext.refl _) | (with_reducible refine Ext.up ?_ _) | (with_reducible refine Ext.alloc ?_ _) | (with_reducible refine Ext.drew ?_) | (with_reducible refine Ext.setRow ?_ (by first | exact LeS.le | exact LeS.add _ | (simp; done) | (simp; omega)) _) | (with_reducible refine Ext.setCell ?_ (by first | exact LeS.le | exact LeS.add _ | (simp; done) | (simp; omega)) _))))⟩
      case measure => simp [intOf]; omega
    · go_wp2_with fail
      go_ret
      exact ⟨rfl, (.of (by repeat (first | (with_reducible exact Ext.refl _) | (with_reducible refine Ext.up ?_ _) | (with_reducible refine Ext.alloc ?_ _) | (with_reducible refine Ext.drew ?_) | (with_reducible refine Ext.setRow ?_ (by first | exact LeS.le | exact LeS.add _ | (simp; done) | (simp; omega)) _) | (with_reducible refine Ext.setCell ?_ (by first | exact LeS.le | exact LeS.add _ | (simp; done) | (simp; omega)) _))))⟩
set_option maxRecDepth 100000 in
set_option maxHeartbeats 2000000 in
theorem sameTree_same (t : Tree) (v0 v1 v2 u0 u1 u2 : Value) (w : World) (h : ST w v0 v1 v2 t) (h' : ST w u0 u1 u2 t) :
    Calls Try.prog 28 #[.agg #[v0, v1, v2], .agg #[u0, u1, u2]] w fun e w' => e = .returned (.bool true) ∧ Up w w' := by
  obtain ⟨p0, c0, rfl, _, _⟩ := h.base.openc
  obtain ⟨p1, c1, rfl, _, _, hc⟩ := h.bs.open
  obtain ⟨p2, c2, rfl, _, _⟩ := h.pr.openc
  obtain ⟨q0, d0, rfl, _, _⟩ := h'.base.openc
  obtain ⟨q1, d1, rfl, _, _, hd⟩ := h'.bs.open
  obtain ⟨q2, d2, rfl, _, _⟩ := h'.pr.openc
  have H := Lib.hid h; have H' := Lib.hid h'
  clear h h'
  go_enter Try.func28, Try.ntmps28
  go_wp2_with (first | (go_at_call 31; refine (sameStore_same t.base _ _ _ (H.out.base.up (by repeat (first | (with_reducible exact Ext.refl _) | (with_reducible refine Ext.up ?_ _) | (with_reducible refine Ext.alloc ?_ _) | (with_reducible refine Ext.drew ?_) | (with_reducible refine Ext.setRow ?_ (by first | exact LeS.le | exact LeS.add _ | (simp; done) | (simp; omega)) _) | (with_reducible refine Ext.setCell ?_ (by first | exact LeS.le | exact LeS.add _ | (simp; done) | (simp; omega)) _)))) (H'.out.base.up (by repeat (first | (with_reducible exact Ext.refl _) | (with_reducible refine Ext.up ?_ _) | (with_reducible refine Ext.alloc ?_ _) | (with_reducible refine Ext.drew ?_) | (with_reducible refine Ext.setRow ?_ (by first | exact LeS.le | exact LeS.add _ | (simp; done) | (simp; omega)) _) | (with_reducible refine Ext.setCell ?_ (by first | exact LeS.le | exact LeS.add _ | (simp; done) | (simp; omega)) _))))).mono ?_; rintro e w' ⟨rfl, z1, rfl⟩) | (go_at_call 55; refine (sameInts_same t.pr _ _ _ (H.out.pr.up (by repeat (first | (with_reducible exact Ext.refl _) | (with_reducible refine Ext.up ?_ _) | (with_reducible refine Ext.alloc ?_ _) | (with_reducible refine Ext.drew ?_) | (with_reducible refine Ext.setRow ?_ (by first | exact LeS.le | exact LeS.add _ | (simp; done) | (simp; omega)) _) | (with_reducible refine Ext.setCell ?_ (by first | exact LeS.le | exact LeS.add _ | (simp; done) | (simp; omega)) _)))) (H'.out.pr.up (by repeat (first | (with_reducible exact Ext.refl _) | (with_reducible refine Ext.up ?_ _) | (with_reducible refine Ext.alloc ?_ _) | (with_reducible refine Ext.drew ?_) | (with_reducible refine Ext.setRow ?_ (by first | exact LeS.le | exact LeS.add _ | (simp; done) | (simp; omega)) _) | (with_reducible refine Ext.setCell ?_ (by first | exact LeS.le | exact LeS.add _ | (simp; done) | (simp; omega)) _))))).mono ?_; rintro e w' ⟨rfl, z2, rfl⟩))
  go_loopw [5] (fun s5 wr => ∃ (k : Nat), s5 = .int .i64 k ∧ k ≤ t.bs.length ∧ Up z2.val wr) (fun s5 _ => t.bs.length - (intOf s5).toNat)
  case atStart => exact ⟨0, rfl, Nat.zero_le _, (.of (by repeat (first | (with_reducible exact Ext.refl _) | (with_reducible refine Ext.up ?_ _) | (with_reducible refine Ext.alloc ?_ _) | (with_reducible refine Ext.drew ?_) | (with_reducible refine Ext.setRow ?_ (by first | exact LeS.le | exact LeS.add _ | (simp; done) | (simp; omega)) _) | (with_reducible refine Ext.setCell ?_ (by first | exact LeS.le | exact LeS.add _ | (simp; done) | (simp; omega)) _))))⟩
  case round =>
    obtain ⟨k, rfl, hk, ⟨z, rfl⟩⟩ := hrel
    by_cases hlt : k < t.bs.length
    · obtain ⟨y, hyk⟩ := getElem?_some_of_lt hlt
      obtain ⟨b, off, p, c, rfl, hb, a0, a1, a2, a3, a4, a5, hs⟩ := hc k y hyk
      obtain ⟨b', off', q, d, rfl, hb', e0, e1, e2, e3, e4, e5, hs'⟩ := hd k y hyk
      have HS := Lib.hid hs; have HS' := Lib.hid hs'
      have k0 : (0 : Int) ≤ (k : Int) := by omega
      have k1 : (k : Int) < t.bs.length := by omega
      clear hc hd hyk hs hs'
      go_wp2_with fail
      (refine wp_region_up (by kernel_rfl) (by kernel_rfl) ?_; (repeat (go_big_quiet_step ((go_at_call 17; exact Calls.up (sameBlock_same y.1 y.2 _ _ _ (HS.out.up (by repeat (first | (with_reducible exact Ext.refl _) | (with_reducible refine Ext.up ?_ _) | (with_reducible refine Ext.alloc ?_ _) | (with_reducible refine Ext.drew ?_) | (with_reducible refine Ext.setRow ?_ (by first | exact LeS.le | exact LeS.add _ | (simp; done) | (simp; omega)) _) | (with_reducible refine Ext.setCell ?_ (by first | exact LeS.le | exact LeS.add _ | (simp; done) | (simp; omega)) _)))) (HS'.out.up (by repeat (first | (with_reducible exact Ext.refl _) | (with_reducible refine Ext.up ?_ _) | (with_reducible refine Ext.alloc ?_ _) | (with_reducible refine Ext.drew ?_) | (with_reducible refine Ext.setRow ?_ (by first | exact LeS.le | exact LeS.add _ | (simp; done) | (simp; omega)) _) | (with_reducible refine Ext.setCell ?_ (by first | exact LeS.le | exact LeS.add _ | (simp; done) | (simp; omega)) _))))))))); refine wpQuiet_nil ?_; intro _ hw'; obtain ⟨zq, hw''⟩ := hw'; subst hw'')
      go_wp2_with fail
      go_roundw
      case rel => exact ⟨k + 1, by go_num, by omega, (.of (by repeat (first | (with_reducible exact Ext.refl _) | (with_reducible refine Ext.up ?_ _) | (with_reducible refine Ext.alloc ?_ _) | (with_reducible refine Ext.drew ?_) | (with_reducible refine Ext.setRow ?_ (by first | exact LeS.le | exact LeS.add _ | (simp; done) | (simp; omega)) _) | (with_reducible refine Ext.setCell ?_ (by first | exact LeS.le | exact LeS.add _ | (simp; done) | (simp; omega)) _))))⟩
      case measure => simp [intOf]; omega
    · go_wp2_with fail
      go_ret
      exact ⟨rfl, (.of (by repeat (first | (with_reducible exact Ext.refl _) | (with_reducible refine Ext.up ?_ _) | (with_reducible refine Ext.alloc ?_ _) | (with_reducible refine Ext.drew ?_) | (with_reducible refine Ext.setRow ?_ (by first | exact LeS.le | exact LeS.add _ | (simp; done) | (simp; omega)) _) | (with_reducible refine Ext.setCell ?_ (by first | exact LeS.le | exact LeS.add _ | (simp; done) | (simp; omega)) _))))⟩
set_option maxRecDepth 100000 in
theorem drawTreeOf_any (bs : List Int) (v : Value) (w : World) (h : SL (RF encU) 1 w v bs) (hb : ∀ b ∈ bs, 0 ≤ b ∧ b ≤ 255) :
    Calls Try.prog 26 #[v] w fun e w' => ∃ vs s, e = .returned vs ∧ Up w w' ∧ s.length ≤ 33 ∧ SL (RF Ent.enc) 2 w' vs s := by
  have H := Lib.hid h; clear h
  go_enter Try.func26, Try.ntmps26
  go_wp2_with fail
  refine (open_any bs v _ (H.out.up (by repeat (first | (with_reducible exact Ext.refl _) | (with_reducible refine Ext.up ?_ _) | (with_reducible refine Ext.alloc ?_ _) | (with_reducible refine Ext.drew ?_) | (with_reducible refine Ext.setRow ?_ (by first | exact LeS.le | exact LeS.add _ | (simp; done) | (simp; omega)) _) | (with_reducible refine Ext.setCell ?_ (by first | exact LeS.le | exact LeS.add _ | (simp; done) | (simp; omega)) _)))) hb).mono ?_; rintro e w' ⟨rb, rfl, ⟨z0, rfl⟩, hr⟩
  have H0 := Lib.hid hr
  have Hold := Lib.hid hr.old
  clear hr
  go_wp2_with fail
  refine (drawStore_any _ _ rb 0 6 H0.out (by omega) (by omega) (by omega)).mono ?_; rintro e w' ⟨vs, s, rfl, hs33, _, ⟨z1, rfl⟩, hr, hown⟩
  go_wp2_with fail
  go_ret
  exact ⟨_, s, rfl, .of (Ext.upR z0.ext Hold.out z1), hs33, hown.sl Ent.enc_length⟩
set_option maxRecDepth 100000 in
set_option maxHeartbeats 4000000 in
theorem FnTreeOf_any (bs : List Int) (v : Value) (w : World) (h : SL (RF encU) 1 w v bs) (hb : ∀ b ∈ bs, 0 ≤ b ∧ b ≤ 255) :
    Calls Try.prog 5 #[v] w fun e w' => e = .returned (.bool true) ∧ Up w w' := by
  have H := Lib.hid h
  obtain ⟨p, c, rfl, _, _⟩ := h.openc
  clear h
  by_cases hl : 1048576 < bs.length
  · go_enter Try.func5, Try.ntmps5
    go_wp2_with fail
    go_ret
    exact ⟨rfl, (.of (by repeat (first | (with_reducible exact Ext.refl _) | (with_reducible refine Ext.up ?_ _) | (with_reducible refine Ext.alloc ?_ _) | (with_reducible refine Ext.drew ?_) | (with_reducible refine Ext.setRow ?_ (by first | exact LeS.le | exact LeS.add _ | (simp; done) | (simp; omega)) _) | (with_reducible refine Ext.setCell ?_ (by first | exact LeS.le | exact LeS.add _ | (simp; done) | (simp; omega)) _))))⟩
  go_enter Try.func5, Try.ntmps5
  go_wp2_with fail
  refine (drawTreeOf_any bs _ _ (H.out.up (by repeat (first | (with_reducible exact Ext.refl _) | (with_reducible refine Ext.up ?_ _) | (with_reducible refine Ext.alloc ?_ _) | (with_reducible refine Ext.drew ?_) | (with_reducible refine Ext.setRow ?_ (by first | exact LeS.le | exact LeS.add _ | (simp; done) | (simp; omega)) _) | (with_reducible refine Ext.setCell ?_ (by first | exact LeS.le | exact LeS.add _ | (simp; done) | (simp; omega)) _)))) hb).mono ?_; rintro e w' ⟨vs, s, rfl, ⟨z0, rfl⟩, hs33, hss⟩
  obtain ⟨ps, cs, rfl, _, _⟩ := hss.openc
  have HS := Lib.hid hss; clear hss
  go_wp2_with fail
  refine (iTreeOf_any s _ _ (HS.out.up (by repeat (first | (with_reducible exact Ext.refl _) | (with_reducible refine Ext.up ?_ _) | (with_reducible refine Ext.alloc ?_ _) | (with_reducible refine Ext.drew ?_) | (with_reducible refine Ext.setRow ?_ (by first | exact LeS.le | exact LeS.add _ | (simp; done) | (simp; omega)) _) | (with_reducible refine Ext.setCell ?_ (by first | exact LeS.le | exact LeS.add _ | (simp; done) | (simp; omega)) _)))) (by omega)).mono ?_; rintro e w' ⟨v0, v1, v2, bt, rfl, ⟨z1, rfl⟩, hbt, _, _, hot⟩
  have hst := hot.st' hbt
  obtain ⟨p0, c0, rfl, _, _⟩ := hst.base.openc
  obtain ⟨p1, c1, rfl, _, _⟩ := hst.bs.openc
  obtain ⟨p2, c2, rfl, _, _⟩ := hst.pr.openc
  have HT := Lib.hid hst
  have ks := fun w h => sStoreValid_any s (.slice ps s.length cs) w h
  have kt := fun w h => sTreeOf_any s (.slice ps s.length cs) w h (by omega)
  have hT : entsOk 1 s = true → treeOf s = treeOne s := fun h => by unfold treeOf; rw [h]; rfl
  have hN : entsOk 1 s = false → (treeOf s).bs.length = 0 := fun h => by unfold treeOf; simp [h]
  have hO : entsOk 1 s = true → (treeOf s).ok = true ∧ (treeOf s).bs.length = 1 ∧ (treeOf s).base = s := fun h => by rw [hT h]; exact ⟨treeOne_ok h, rfl, rfl⟩
  clear hst hot hbt hT
  generalize treeOf s = t at *
  go_upto_region 5 with fail
  (go_region_held3 (fun w' => (∀ n i, ∀ [LtS n (z1.val.alloc (.cells #[.slice p0 t.base.length c0, .slice p1 t.bs.length c1, .slice p2 t.pr.length c2] 42))], w'.cell? ⟨n, i, none⟩ = World.cell? (z1.val.alloc (.cells #[.slice p0 t.base.length c0, .slice p1 t.bs.length c1, .slice p2 t.pr.length c2] 42)) ⟨n, i, none⟩) ∧ Ext (z1.val.alloc (.cells #[.slice p0 t.base.length c0, .slice p1 t.bs.length c1, .slice p2 t.pr.length c2] 42)) w') ((refine S_of_ext ?_; (repeat (first | (with_reducible exact Ext.refl _) | (with_reducible refine Ext.up ?_ _) | (with_reducible refine Ext.alloc ?_ _) | (with_reducible refine Ext.drew ?_) | (with_reducible refine Ext.setRow ?_ (by first | exact LeS.le | exact LeS.add _ | (simp; done) | (simp; omega)) _) | (with_reducible refine Ext.setCell ?_ (by first | exact LeS.le | exact LeS.add _ | (simp; done) | (simp; omega)) _))); done)) (first | ((go_at_call 29; refine (kt _ (HS.out.up (by repeat (first | (with_reducible exact Ext.refl _) | (with_reducible refine Ext.up ?_ _) | (with_reducible refine Ext.alloc ?_ _) | (with_reducible refine Ext.drew ?_) | (with_reducible refine Ext.setRow ?_ (by first | exact LeS.le | exact LeS.add _ | (simp; done) | (simp; omega)) _) | (with_reducible refine Ext.setCell ?_ (by first | exact LeS.le | exact LeS.add _ | (simp; done) | (simp; omega)) _))))).mono ?_; rintro e w' ⟨u0, u1, u2, bt', rfl, ⟨z2, rfl⟩, hbt', _, _, hot'⟩); have HT' := Lib.hid (hot'.st' hbt'); clear hbt' hot') | (go_at_call 28; refine (sameTree_same t _ _ _ _ _ _ _ (HT.out.up (by repeat (first | (with_reducible exact Ext.refl _) | (with_reducible refine Ext.up ?_ _) | (with_reducible refine Ext.alloc ?_ _) | (with_reducible refine Ext.drew ?_) | (with_reducible refine Ext.setRow ?_ (by first | exact LeS.le | exact LeS.add _ | (simp; done) | (simp; omega)) _) | (with_reducible refine Ext.setCell ?_ (by first | exact LeS.le | exact LeS.add _ | (simp; done) | (simp; omega)) _)))) (HT'.out.up (by repeat (first | (with_reducible exact Ext.refl _) | (with_reducible refine Ext.up ?_ _) | (with_reducible refine Ext.alloc ?_ _) | (with_reducible refine Ext.drew ?_) | (with_reducible refine Ext.setRow ?_ (by first | exact LeS.le | exact LeS.add _ | (simp; done) | (simp; omega)) _) | (with_reducible refine Ext.setCell ?_ (by first | exact LeS.le | exact LeS.add _ | (simp; done) | (simp; omega)) _))))).mono ?_; rintro e w' ⟨rfl, z3, rfl⟩)))
  clear kt
  rcases hok : entsOk 1 s with _ | _
  · have hz : ((t.bs.length : Int) == 0) = true := by rw [hN hok]; rfl
    simp only [hok] at ks
    clear hok hN hO
    go_wp2_with (first | (go_at_call 19; refine (ks _ (HS.out.up (by repeat (first | (with_reducible exact Ext.refl _) | (with_reducible refine Ext.up ?_ _) | (with_reducible refine Ext.alloc ?_ _) | (with_reducible refine Ext.drew ?_) | (with_reducible refine Ext.setRow ?_ (by first | exact LeS.le | exact LeS.add _ | (simp; done) | (simp; omega)) _) | (with_reducible refine Ext.setCell ?_ (by first | exact LeS.le | exact LeS.add _ | (simp; done) | (simp; omega)) _))))).mono ?_; rintro e w' ⟨rfl, z4, rfl⟩) | (go_at_call 20; refine (alive_any _).mono ?_; rintro e w' ⟨rfl, z5, rfl⟩))
    go_ret
    exact ⟨rfl, (.of (by repeat (first | (with_reducible exact Ext.refl _) | (with_reducible refine Ext.up ?_ _) | (with_reducible refine Ext.alloc ?_ _) | (with_reducible refine Ext.drew ?_) | (with_reducible refine Ext.setRow ?_ (by first | exact LeS.le | exact LeS.add _ | (simp; done) | (simp; omega)) _) | (with_reducible refine Ext.setCell ?_ (by first | exact LeS.le | exact LeS.add _ | (simp; done) | (simp; omega)) _))))⟩
  · obtain ⟨htok, ht1, htb⟩ := hO hok
    have hz : ((t.bs.length : Int) == 1) = true := by rw [ht1]; rfl
    have HSb := Lib.hid (show SL (RF Ent.enc) 2 z0.val (.slice ps s.length cs) t.base by rw [htb]; exact HS.out)
    have kv := fun w h => iTreeValid_any t (.slice p0 t.base.length c0) (.slice p1 t.bs.length c1) (.slice p2 t.pr.length c2) w h
    have kf := fun w h => iStoreOf_first t (.slice p0 t.base.length c0) (.slice p1 t.bs.length c1) (.slice p2 t.pr.length c2) w h htok
    simp only [hok] at ks
    simp only [htok] at kv
    clear hok hN hO htok ht1 htb
    go_wp2_with (first | (go_at_call 19; refine (ks _ (HS.out.up (by repeat (first | (with_reducible exact Ext.refl _) | (with_reducible refine Ext.up ?_ _) | (with_reducible refine Ext.alloc ?_ _) | (with_reducible refine Ext.drew ?_) | (with_reducible refine Ext.setRow ?_ (by first | exact LeS.le | exact LeS.add _ | (simp; done) | (simp; omega)) _) | (with_reducible refine Ext.setCell ?_ (by first | exact LeS.le | exact LeS.add _ | (simp; done) | (simp; omega)) _))))).mono ?_; rintro e w' ⟨rfl, z4, rfl⟩) | (go_at_call 30; refine (kv _ (HT.out.up (by repeat (first | (with_reducible exact Ext.refl _) | (with_reducible refine Ext.up ?_ _) | (with_reducible refine Ext.alloc ?_ _) | (with_reducible refine Ext.drew ?_) | (with_reducible refine Ext.setRow ?_ (by first | exact LeS.le | exact LeS.add _ | (simp; done) | (simp; omega)) _) | (with_reducible refine Ext.setCell ?_ (by first | exact LeS.le | exact LeS.add _ | (simp; done) | (simp; omega)) _))))).mono ?_; rintro e w' ⟨rfl, z5, rfl⟩) | ((go_at_call 32; refine (kf _ (HT.out.up (by repeat (first | (with_reducible exact Ext.refl _) | (with_reducible refine Ext.up ?_ _) | (with_reducible refine Ext.alloc ?_ _) | (with_reducible refine Ext.drew ?_) | (with_reducible refine Ext.setRow ?_ (by first | exact LeS.le | exact LeS.add _ | (simp; done) | (simp; omega)) _) | (with_reducible refine Ext.setCell ?_ (by first | exact LeS.le | exact LeS.add _ | (simp; done) | (simp; omega)) _))))).mono ?_; rintro e w' ⟨v6, rfl, ⟨z6, rfl⟩, o6⟩); obtain ⟨p6, c6, hv6, _, _⟩ := (o6.sl Ent.enc_length).openc; subst hv6; have O6 := Lib.hid (o6.sl Ent.enc_length); clear o6) | (go_at_call 31; refine (sameStore_same t.base _ _ _ (O6.out.up (by repeat (first | (with_reducible exact Ext.refl _) | (with_reducible refine Ext.up ?_ _) | (with_reducible refine Ext.alloc ?_ _) | (with_reducible refine Ext.drew ?_) | (with_reducible refine Ext.setRow ?_ (by first | exact LeS.le | exact LeS.add _ | (simp; done) | (simp; omega)) _) | (with_reducible refine Ext.setCell ?_ (by first | exact LeS.le | exact LeS.add _ | (simp; done) | (simp; omega)) _)))) (HSb.out.up (by repeat (first | (with_reducible exact Ext.refl _) | (with_reducible refine Ext.up ?_ _) | (with_reducible refine Ext.alloc ?_ _) | (with_reducible refine Ext.drew ?_) | (with_reducible refine Ext.setRow ?_ (by first | exact LeS.le | exact LeS.add _ | (simp; done) | (simp; omega)) _) | (with_reducible refine Ext.setCell ?_ (by first | exact LeS.le | exact LeS.add _ | (simp; done) | (simp; omega)) _))))).mono ?_; rintro e w' ⟨rfl, z7, rfl⟩))
    go_ret
    exact ⟨rfl, (.of (by repeat (first | (with_reducible exact Ext.refl _) | (with_reducible refine Ext.up ?_ _) | (with_reducible refine Ext.alloc ?_ _) | (with_reducible refine Ext.drew ?_) | (with_reducible refine Ext.setRow ?_ (by first | exact LeS.le | exact LeS.add _ | (simp; done) | (simp; omega)) _) | (with_reducible refine Ext.setCell ?_ (by first | exact LeS.le | exact LeS.add _ | (simp; done) | (simp; omega)) _))))⟩
end Go.Proofs.Ytphkimbhjfjjkaa
