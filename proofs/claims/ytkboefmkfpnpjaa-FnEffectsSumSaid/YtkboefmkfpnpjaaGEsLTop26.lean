/- Walks: FnExactReadVersion: which value an action reads. Walks: FnExactLastVersions: the store that remains. Plain laws: lists of versions: parts, repeats, what is read of a part. Walks: drawn versions. Walks: lists that are compared; drawn arguments of the laws on versions. Plain laws: actions that are not in conflict change places. -/
import Derived.Test.YtkboefmkfpnpjaaGEsLTop04
import Derived.Test.YtkboefmkfpnpjaaGEsLTop24
import Derived.Test.YtkboefmkfpnpjaaGEsLTop01
import Derived.Test.YtkboefmkfpnpjaaGEsLTop16
import Derived.Test.YtkboefmkfpnpjaaGEsLTop25
import Derived.Test.YtkboefmkfpnpjaaGEsLTop19
import Derived.Test.YtkboefmkfpnpjaaGEsLTop18
set_option linter.unusedSimpArgs false
set_option linter.unusedVariables false
namespace Go.Proofs.Ytkboefmkfpnpjaa
open Go Go.RowKit Go.Proofs

def rdOk (s : List Ent) (l : List Ver) (key by_ : Int) : Bool := entsOk 1 s && (versOk l && (inR key 0 31 && inR by_ 0 10))
def rdV (s : List Ent) (l : List Ver) (key by_ : Int) : Int × Int := if rdOk s l key by_ = true then readV (atK s key) l key by_ else (-1, -1)
theorem rdV_no {s : List Ent} {l : List Ver} {key by_ : Int} (h : rdOk s l key by_ = false) : rdV s l key by_ = (-1, -1) := by unfold rdV; rw [h]; rfl
theorem rdV_yes {s : List Ent} {l : List Ver} {key by_ : Int} (h : rdOk s l key by_ = true) : rdV s l key by_ = readV (atK s key) l key by_ := by unfold rdV; rw [h]; rfl
set_option maxHeartbeats 1000000 in
theorem iReadVersion_any (s : List Ent) (l : List Ver) (u v : Value) (key by_ : Int) (w : World) (hs : SL (RF Ent.enc) 2 w u s) (h : SL (RF Ver.enc) 3 w v l) :
    Calls Try.prog 38 #[u, v, .int .i64 key, .int .i64 by_] w fun e w' => e = .returned (.tuple #[.int .i64 (rdV s l key by_).1, .int .i64 (rdV s l key by_).2]) ∧ Up w w' := by
  have Hs := Lib.hid hs; have H := Lib.hid h
  clear h hs
  rcases guards4 (entsOk 1 s) (versOk l) (inR key 0 31) (inR by_ 0 10) with h1 | ⟨h1, h2⟩ | ⟨h1, h2, h3⟩ | ⟨h1, h2, h3, h4⟩ | ⟨h1, h2, h3, h4⟩
  case inr.inr.inr.inr =>
    rw [rdV_yes (by simp [rdOk, *])]
    obtain ⟨k0, k1⟩ := inR_iff.1 h3
    have hg : (valsOf s)[key.toNat]? = some (atK s key) := by have := valsOf_get h1 (n := key.toNat) (by omega); rwa [show ((key.toNat : Nat) : Int) = key from by omega] at this
    have Hg := Lib.hid hg; clear hg
    have H1 := Lib.hid h1
    go_enter Try.func38, Try.ntmps38
    go_wp2_with (first | (go_at_call 91; refine (isKey_any _ _).mono ?_; rintro e w' ⟨rfl, rfl⟩) | (go_at_call 88; refine (in_any _ _ _ _).mono ?_; rintro e w' ⟨rfl, rfl⟩) | (go_at_call 68; refine (iStoreValid_any s _ _ Hs.out).mono ?_; rintro e w' ⟨rfl, z1, rfl⟩) | (go_at_call 43; refine (iVersionsValid_any l _ _ (H.out.up (by repeat (first | exact Ext.refl _ | refine Ext.up ?_ _ | refine Ext.alloc ?_ _ | refine Ext.drew ?_ | refine Ext.setRow ?_ (by first | (dsimp only; omega) | exact LeS.le | exact LeS.add _ | (simp; done) | (simp; omega)) _ | refine Ext.setCell ?_ (by first | (dsimp only; omega) | exact LeS.le | exact LeS.add _ | (simp; done) | (simp; omega)) _)))).mono ?_; rintro e w' ⟨rfl, z2, rfl⟩) | (go_at_call 71; refine (valuesOf_any 1 s _ _ (Hs.out.up (by repeat (first | exact Ext.refl _ | refine Ext.up ?_ _ | refine Ext.alloc ?_ _ | refine Ext.drew ?_ | refine Ext.setRow ?_ (by first | (dsimp only; omega) | exact LeS.le | exact LeS.add _ | (simp; done) | (simp; omega)) _ | refine Ext.setCell ?_ (by first | (dsimp only; omega) | exact LeS.le | exact LeS.add _ | (simp; done) | (simp; omega)) _))) H1.out).mono ?_; rintro e w' ⟨rfl, z3, rfl⟩) | (go_at_call 92; refine (read_any _ _ l _ _ _ _ Hg.out k0 k1 (H.out.up (by repeat (first | exact Ext.refl _ | refine Ext.up ?_ _ | refine Ext.alloc ?_ _ | refine Ext.drew ?_ | refine Ext.setRow ?_ (by first | (dsimp only; omega) | exact LeS.le | exact LeS.add _ | (simp; done) | (simp; omega)) _ | refine Ext.setCell ?_ (by first | (dsimp only; omega) | exact LeS.le | exact LeS.add _ | (simp; done) | (simp; omega)) _)))).mono ?_; rintro e w' ⟨rfl, z4, rfl⟩))
    go_ret2
    exact ⟨rfl, (.of (by repeat (first | exact Ext.refl _ | refine Ext.up ?_ _ | refine Ext.alloc ?_ _ | refine Ext.drew ?_ | refine Ext.setRow ?_ (by first | (dsimp only; omega) | exact LeS.le | exact LeS.add _ | (simp; done) | (simp; omega)) _ | refine Ext.setCell ?_ (by first | (dsimp only; omega) | exact LeS.le | exact LeS.add _ | (simp; done) | (simp; omega)) _)))⟩
  all_goals
    rw [rdV_no (by simp [rdOk, *])]
    go_enter Try.func38, Try.ntmps38
    go_wp2_with (first | (go_at_call 91; refine (isKey_any _ _).mono ?_; rintro e w' ⟨rfl, rfl⟩) | (go_at_call 88; refine (in_any _ _ _ _).mono ?_; rintro e w' ⟨rfl, rfl⟩) | (go_at_call 68; refine (iStoreValid_any s _ _ Hs.out).mono ?_; rintro e w' ⟨rfl, z1, rfl⟩) | (go_at_call 43; refine (iVersionsValid_any l _ _ (H.out.up (by repeat (first | exact Ext.refl _ | refine Ext.up ?_ _ | refine Ext.alloc ?_ _ | refine Ext.drew ?_ | refine Ext.setRow ?_ (by first | (dsimp only; omega) | exact LeS.le | exact LeS.add _ | (simp; done) | (simp; omega)) _ | refine Ext.setCell ?_ (by first | (dsimp only; omega) | exact LeS.le | exact LeS.add _ | (simp; done) | (simp; omega)) _)))).mono ?_; rintro e w' ⟨rfl, z2, rfl⟩))
    go_ret2
    exact ⟨rfl, (.of (by repeat (first | exact Ext.refl _ | refine Ext.up ?_ _ | refine Ext.alloc ?_ _ | refine Ext.drew ?_ | refine Ext.setRow ?_ (by first | (dsimp only; omega) | exact LeS.le | exact LeS.add _ | (simp; done) | (simp; omega)) _ | refine Ext.setCell ?_ (by first | (dsimp only; omega) | exact LeS.le | exact LeS.add _ | (simp; done) | (simp; omega)) _)))⟩
end Go.Proofs.Ytkboefmkfpnpjaa
namespace Go.Proofs.Ytkboefmkfpnpjaa
open Go Go.RowKit Go.Proofs

def lastR (s : List Ent) (l : List Ver) : List Ent := if (entsOk 1 s && versOk l) = true then storeOf (lastV s l) else []
theorem lastR_no {s : List Ent} {l : List Ver} (h : (entsOk 1 s && versOk l) = false) : lastR s l = [] := by unfold lastR; rw [h]; rfl
theorem lastR_yes {s : List Ent} {l : List Ver} (h : (entsOk 1 s && versOk l) = true) : lastR s l = storeOf (lastV s l) := by unfold lastR; rw [h]; rfl
theorem lastR_le (s : List Ent) (l : List Ver) : (lastR s l).length ≤ 32 := by unfold lastR; split; exact storeOf_le _; simp
set_option maxRecDepth 100000 in
set_option maxHeartbeats 2000000 in
theorem iLastVersions_any (s : List Ent) (l : List Ver) (u v : Value) (w : World) (hs : SL (RF Ent.enc) 2 w u s) (h : SL (RF Ver.enc) 3 w v l) :
    Calls Try.prog 39 #[u, v] w fun e w' => ∃ v', e = .returned v' ∧ Up w w' ∧ Own Ent.enc 31 2 w.heap.size w' v' (lastR s l) := by
  have Hs := Lib.hid hs; have H := Lib.hid h
  clear h hs
  rcases guards2 (entsOk 1 s) (versOk l) with h1 | ⟨h1, h2⟩ | ⟨h1, h2⟩
  case inr.inr =>
    rw [lastR_yes (by simp [*])]
    have H1 := Lib.hid h1
    have tok1 : True := trivial
    have tok2 : True := trivial
    go_enter Try.func39, Try.ntmps39
    go_wp2_with (first | (go_at_call 68; refine (iStoreValid_any s _ _ (Hs.out.up (by repeat (first | exact Ext.refl _ | refine Ext.up ?_ _ | refine Ext.alloc ?_ _ | refine Ext.drew ?_ | refine Ext.setRow ?_ (by first | (dsimp only; omega) | exact LeS.le | exact LeS.add _ | (simp; done) | (simp; omega)) _ | refine Ext.setCell ?_ (by first | (dsimp only; omega) | exact LeS.le | exact LeS.add _ | (simp; done) | (simp; omega)) _)))).mono ?_; rintro e w' ⟨rfl, z1, rfl⟩) | (go_at_call 43; refine (iVersionsValid_any l _ _ (H.out.up (by repeat (first | exact Ext.refl _ | refine Ext.up ?_ _ | refine Ext.alloc ?_ _ | refine Ext.drew ?_ | refine Ext.setRow ?_ (by first | (dsimp only; omega) | exact LeS.le | exact LeS.add _ | (simp; done) | (simp; omega)) _ | refine Ext.setCell ?_ (by first | (dsimp only; omega) | exact LeS.le | exact LeS.add _ | (simp; done) | (simp; omega)) _)))).mono ?_; rintro e w' ⟨rfl, z2, rfl⟩) | (go_at_call 71; refine (valuesOf_any 1 s _ _ (Hs.out.up (by repeat (first | exact Ext.refl _ | refine Ext.up ?_ _ | refine Ext.alloc ?_ _ | refine Ext.drew ?_ | refine Ext.setRow ?_ (by first | (dsimp only; omega) | exact LeS.le | exact LeS.add _ | (simp; done) | (simp; omega)) _ | refine Ext.setCell ?_ (by first | (dsimp only; omega) | exact LeS.le | exact LeS.add _ | (simp; done) | (simp; omega)) _))) H1.out).mono ?_; rintro e w' ⟨rfl, z3, rfl⟩) | (have _t := tok1; refine wpList_store_new rfl _ _ _ rfl rfl rfl rfl (by rw [valsOf_length]; exact Try.sVals) (by rw [valsOf_length]; rfl) ?_; intro z4 r4; clear _t tok1) | (have _t := tok2; refine wpList_store_new rfl _ _ _ rfl rfl rfl rfl (by rw [valsOf_length]; exact Try.sVals) (by rw [valsOf_length]; rfl) ?_; intro z5 r5; clear _t tok2) | (refine wpList_load_row rfl _ _ rfl _ rfl _ _ _ _ r4.eq Try.underlying99 rfl (by rw [vA_size, valsOf_length]; exact Try.sVals) ?_))
    have Hne := Lib.hid (show z3.val.heap.size ≠ z4.val.heap.size by have := r4.lt; omega)
    have R4 := Lib.hid (r4.up z5.ext); have R5 := Lib.hid r5
    clear r4 r5
    go_loopw [7, 19] (fun _ s19 wr => ∃ k : Nat, s19 = .int .i64 k ∧ k ≤ 32 ∧ Up w wr ∧ Row 99 wr z3.val.heap.size (valsOf s) ∧ Row 99 wr z4.val.heap.size (mixV (lastV s l) (valsOf s) k)) (fun _ s19 _ => 32 - (intOf s19).toNat)
    case atStart => exact ⟨0, rfl, Nat.zero_le _, (.of (by repeat (first | exact Ext.refl _ | refine Ext.up ?_ _ | refine Ext.alloc ?_ _ | refine Ext.drew ?_ | refine Ext.setRow ?_ (by first | (dsimp only; omega) | exact LeS.le | exact LeS.add _ | (simp; done) | (simp; omega)) _ | refine Ext.setCell ?_ (by first | (dsimp only; omega) | exact LeS.le | exact LeS.add _ | (simp; done) | (simp; omega)) _))), R4.out, by rw [mixV_zero]; exact R5.out⟩
    case round =>
      obtain ⟨k, rfl, hk, ⟨z, rfl⟩, r6, r7⟩ := hrel
      by_cases hlt : k < 32
      · have Hx := Lib.hid (lastV_get s l hlt)
        have Hv := Lib.hid (valsOf_get H1.out hlt)
        have hl : (lastV s l).length = (valsOf s).length := by rw [lastV_length, valsOf_length]
        obtain ⟨y, hy⟩ := getElem?_some_of_lt (l := mixV (lastV s l) (valsOf s) k) (k := k) (by rw [mixV_length hl (by rw [valsOf_length]; omega), valsOf_length]; exact hlt)
        have Hl := Lib.hid hl
        have d0 := r7.cell hy
        have f0 := r7.frozen k
        have hL := r7.lts
        have R6 := Lib.hid r6; have R7 := Lib.hid r7
        clear r6 r7 hy hl
        go_wp2_with (first | (refine wpList_load_row rfl _ _ rfl _ rfl _ _ _ _ R6.out.eq Try.underlying99 rfl (by rw [vA_size, valsOf_length]; exact Try.sVals) ?_) | (go_at_call 92; refine (read_any _ _ l _ _ _ _ Hv.out (by omega) (by omega) (H.out.up (by repeat (first | exact Ext.refl _ | refine Ext.up ?_ _ | refine Ext.alloc ?_ _ | refine Ext.drew ?_ | refine Ext.setRow ?_ (by first | (dsimp only; omega) | exact LeS.le | exact LeS.add _ | (simp; done) | (simp; omega)) _ | refine Ext.setCell ?_ (by first | (dsimp only; omega) | exact LeS.le | exact LeS.add _ | (simp; done) | (simp; omega)) _)))).mono ?_; rintro e w' ⟨rfl, z6, rfl⟩))
        go_roundw
        case rel => exact ⟨k + 1, by go_num, by omega, (.of (by repeat (first | exact Ext.refl _ | refine Ext.up ?_ _ | refine Ext.alloc ?_ _ | refine Ext.drew ?_ | refine Ext.setRow ?_ (by first | (dsimp only; omega) | exact LeS.le | exact LeS.add _ | (simp; done) | (simp; omega)) _ | refine Ext.setCell ?_ (by first | (dsimp only; omega) | exact LeS.le | exact LeS.add _ | (simp; done) | (simp; omega)) _))), (R6.out.up ((Ext.refl _).up z6)).other _ Hne.out, by rw [← mixV_next Hl.out Hx.out]; exact (R7.out.up ((Ext.refl _).up z6)).set _ _⟩
        case measure => simp [intOf]; omega
      · obtain rfl : k = 32 := by omega
        have hl : (lastV s l).length = (valsOf s).length := by rw [lastV_length, valsOf_length]
        have e := mixV_all hl
        rw [valsOf_length] at e
        rw [e] at r7
        have R7 := Lib.hid r7
        clear r6 r7 hl e
        go_wp2_with (first | (refine wpList_load_row rfl _ _ rfl _ rfl _ _ _ _ R7.out.eq Try.underlying99 rfl (by rw [vA_size, lastV_length]; exact Try.sVals) ?_) | (go_at_call 72; refine (store_any _ _ (lastV_length s l)).mono ?_; rintro e w' ⟨v', rfl, ⟨z6, rfl⟩, ho⟩; have HO := Lib.hid ho; clear ho))
        go_ret
        exact ⟨_, rfl, (.of (by repeat (first | exact Ext.refl _ | refine Ext.up ?_ _ | refine Ext.alloc ?_ _ | refine Ext.drew ?_ | refine Ext.setRow ?_ (by first | (dsimp only; omega) | exact LeS.le | exact LeS.add _ | (simp; done) | (simp; omega)) _ | refine Ext.setCell ?_ (by first | (dsimp only; omega) | exact LeS.le | exact LeS.add _ | (simp; done) | (simp; omega)) _))), HO.out.lo LeS.le⟩
  all_goals
    rw [lastR_no (by simp [*])]
    go_enter Try.func39, Try.ntmps39
    go_wp2_with (first | (go_at_call 68; refine (iStoreValid_any s _ _ (Hs.out.up (by repeat (first | exact Ext.refl _ | refine Ext.up ?_ _ | refine Ext.alloc ?_ _ | refine Ext.drew ?_ | refine Ext.setRow ?_ (by first | (dsimp only; omega) | exact LeS.le | exact LeS.add _ | (simp; done) | (simp; omega)) _ | refine Ext.setCell ?_ (by first | (dsimp only; omega) | exact LeS.le | exact LeS.add _ | (simp; done) | (simp; omega)) _)))).mono ?_; rintro e w' ⟨rfl, z1, rfl⟩) | (go_at_call 43; refine (iVersionsValid_any l _ _ (H.out.up (by repeat (first | exact Ext.refl _ | refine Ext.up ?_ _ | refine Ext.alloc ?_ _ | refine Ext.drew ?_ | refine Ext.setRow ?_ (by first | (dsimp only; omega) | exact LeS.le | exact LeS.add _ | (simp; done) | (simp; omega)) _ | refine Ext.setCell ?_ (by first | (dsimp only; omega) | exact LeS.le | exact LeS.add _ | (simp; done) | (simp; omega)) _)))).mono ?_; rintro e w' ⟨rfl, z2, rfl⟩))
    go_ret
    exact ⟨_, rfl, (.of (by repeat (first | exact Ext.refl _ | refine Ext.up ?_ _ | refine Ext.alloc ?_ _ | refine Ext.drew ?_ | refine Ext.setRow ?_ (by first | (dsimp only; omega) | exact LeS.le | exact LeS.add _ | (simp; done) | (simp; omega)) _ | refine Ext.setCell ?_ (by first | (dsimp only; omega) | exact LeS.le | exact LeS.add _ | (simp; done) | (simp; omega)) _))), Own.nil _ _ _ _ _⟩
end Go.Proofs.Ytkboefmkfpnpjaa
namespace Go.Proofs.Ytkboefmkfpnpjaa
open Go Go.RowKit

theorem versOk_of {l : List Ver} (hs : l.Pairwise fun a b => verLt a b = true) (hin : ∀ x ∈ l, verIn x = true) : versOk l = true := by
  refine upTo_iff.2 fun i hi => ?_
  obtain ⟨x, hx⟩ := getElem?_some_of_lt hi
  have hm := hin x (List.mem_of_getElem? hx)
  by_cases h0 : 0 < i
  · obtain ⟨y, hy⟩ := getElem?_some_of_lt (show i - 1 < l.length by omega)
    rw [verAt_next hx h0 hy, Bool.and_eq_true]
    refine ⟨hm, ?_⟩
    rw [List.pairwise_iff_getElem] at hs
    obtain ⟨h1, h2⟩ := List.getElem?_eq_some_iff.1 hx
    obtain ⟨h3, h4⟩ := List.getElem?_eq_some_iff.1 hy
    have := hs (i - 1) i h3 h1 (by omega)
    rw [h2, h4] at this
    exact this
  · rw [verAt_first hx h0]; exact hm
theorem versOk_iff {l : List Ver} : versOk l = true ↔ l.Pairwise (fun a b => verLt a b = true) ∧ ∀ x ∈ l, verIn x = true :=
  ⟨fun h => ⟨vers_sorted h, fun _ hx => versOk_mem h hx⟩, fun h => versOk_of h.1 h.2⟩
theorem versOk_sub {l m : List Ver} (h : versOk l = true) (hs : m.Sublist l) : versOk m = true :=
  versOk_of ((vers_sorted h).sublist hs) fun _ hx => versOk_mem h (hs.subset hx)
theorem versOk_drop {l : List Ver} (h : versOk l = true) (n : Nat) : versOk (l.drop n) = true := versOk_sub h (List.drop_sublist _ _)
theorem verLt_irr (x : Ver) : verLt x x = false := by
  rcases h : verLt x x with _ | _
  · rfl
  · rw [verLt_iff] at h; omega
theorem versOk_twice {l : List Ver} {x : Ver} (hx : x ∈ l) : versOk (l ++ [x]) = false := by
  rcases h : versOk (l ++ [x]) with _ | _
  · rfl
  · have := vers_sorted h
    rw [List.pairwise_append] at this
    have := this.2.2 x hx x (by simp)
    rw [verLt_irr] at this; cases this
theorem versOk_dropV {l : List Ver} (h : versOk l = true) (b : Int) : versOk (dropV l b) = true := versOk_sub h List.filter_sublist
theorem dropV_twice (l : List Ver) (b : Int) : dropV (dropV l b) b = dropV l b := by
  unfold dropV
  rw [List.filter_filter]; simp
theorem putV_ok {l : List Ver} {by_ : Int} {u : List Ent} (h : putOk l by_ u = true) : versOk (putV l by_ u) = true := by
  simp only [putOk, Bool.and_eq_true, inR_iff] at h
  obtain ⟨h1, ⟨b0, b1⟩, hu⟩ := h
  refine versOk_of (putV_sorted (vers_sorted h1) (asc_of hu)) fun x hx => ?_
  have : x ∈ dropV l by_ ++ u.map (mkV by_) := (putTo_perm by_ u _).mem_iff.1 hx
  rcases List.mem_append.1 this with h | h
  · exact versOk_mem h1 (dropV_ne h).1
  · obtain ⟨e, he, rfl⟩ := List.mem_map.1 h
    have := entsOk_mem hu he
    simp only [verIn, mkV, Bool.and_eq_true, inR_iff]
    omega
/-! ### What is read -/
def earlyV (l : List Ver) (by_ : Int) : List Ver := l.filter fun x => decide (x.b < by_)
theorem earlyV_snoc_in {l : List Ver} {k : Nat} {x : Ver} {b : Int} (h : l[k]? = some x) (hb : x.b < b) : earlyV (l.take (k + 1)) b = earlyV (l.take k) b ++ [x] := by
  rw [List.take_add_one, h]; simp [earlyV, hb]
theorem earlyV_snoc_out {l : List Ver} {k : Nat} {x : Ver} {b : Int} (h : l[k]? = some x) (hb : ¬ x.b < b) : earlyV (l.take (k + 1)) b = earlyV (l.take k) b := by
  rw [List.take_add_one, h]; simp [earlyV, hb]
theorem earlyV_le (l : List Ver) (b : Int) : (earlyV l b).length ≤ l.length := List.length_filter_le _ _
theorem earlyV_ok {l : List Ver} (h : versOk l = true) (b : Int) : versOk (earlyV l b) = true := versOk_sub h List.filter_sublist
theorem readV_early (base : Int) (l : List Ver) (key b : Int) : readV base (earlyV l b) key b = readV base l key b := by
  have key' : ∀ (l : List Ver) (p : Int × Int), (earlyV l b).foldl (rdStep key b) p = l.foldl (rdStep key b) p := by
    intro l
    induction l with
    | nil => intro p; rfl
    | cons x l ih =>
      intro p
      by_cases hx : x.b < b
      · have : earlyV (x :: l) b = x :: earlyV l b := by simp [earlyV, hx]
        rw [this, List.foldl_cons, List.foldl_cons, ih]
      · have : earlyV (x :: l) b = earlyV l b := by simp [earlyV, hx]
        rw [this, List.foldl_cons, ih, rdStep_no2 hx]
  exact key' l (base, -1)
theorem readV_inv {base : Int} {l : List Ver} {key b : Int} (hl : versOk l = true) (hb : 0 ≤ b) (h0 : 0 ≤ base ∧ base ≤ 1000000) :
    (0 ≤ (readV base l key b).1 ∧ (readV base l key b).1 ≤ 1000000) ∧ ((readV base l key b).2 = -1 ∧ (readV base l key b).1 = base ∨ 0 ≤ (readV base l key b).2) ∧ (readV base l key b).2 < b ∧ -1 ≤ (readV base l key b).2 := by
  have key' : ∀ (l : List Ver) (p : Int × Int), (∀ x ∈ l, verIn x = true) → ((0 ≤ p.1 ∧ p.1 ≤ 1000000) ∧ (p.2 = -1 ∧ p.1 = base ∨ 0 ≤ p.2) ∧ p.2 < b ∧ -1 ≤ p.2) →
      (0 ≤ (l.foldl (rdStep key b) p).1 ∧ (l.foldl (rdStep key b) p).1 ≤ 1000000) ∧ ((l.foldl (rdStep key b) p).2 = -1 ∧ (l.foldl (rdStep key b) p).1 = base ∨ 0 ≤ (l.foldl (rdStep key b) p).2) ∧ (l.foldl (rdStep key b) p).2 < b ∧ -1 ≤ (l.foldl (rdStep key b) p).2 := by
    intro l
    induction l with
    | nil => intro p _ h; exact h
    | cons x l ih =>
      intro p hin h
      rw [List.foldl_cons]
      refine ih _ (fun y hy => hin y (by simp [hy])) ?_
      have hx := hin x (by simp)
      simp only [verIn, Bool.and_eq_true, inR_iff] at hx
      unfold rdStep
      split
      · dsimp only; omega
      · exact h
  exact key' l (base, -1) (fun _ hx => versOk_mem hl hx) ⟨h0, .inl ⟨rfl, rfl⟩, by show (-1 : Int) < b; omega, by show (-1 : Int) ≤ -1; decide⟩
theorem rdV_neg {s : List Ent} {l : List Ver} {key by_ : Int} (h : (rdV s l key by_).1 < 0) : rdOk s l key by_ = false := by
  rcases hr : rdOk s l key by_ with _ | _
  · rfl
  · exfalso
    rw [rdV_yes hr] at h
    simp only [rdOk, Bool.and_eq_true, inR_iff] at hr
    have := (readV_inv (base := atK s key) (key := key) (b := by_) hr.2.1 (by omega) (atK_in hr.1 (by omega) key)).1.1
    omega
theorem lastV_in {s : List Ent} {l : List Ver} (hs : entsOk 1 s = true) (hl : versOk l = true) : valsIn (lastV s l) := by
  refine ⟨lastV_length s l, fun x hx => ?_⟩
  obtain ⟨i, _, rfl⟩ := List.mem_map.1 hx
  exact (readV_inv hl (by omega) (atK_in hs (by omega) _)).1
theorem lastV_nil {s : List Ent} (hs : entsOk 1 s = true) : lastV s [] = valsOf s := by
  apply List.ext_getElem?
  intro i
  by_cases hi : i < 32
  · rw [lastV_get s [] hi, valsOf_get hs hi]; rfl
  · rw [List.getElem?_eq_none (by rw [lastV_length]; omega), List.getElem?_eq_none (by rw [valsOf_length]; omega)]
theorem lastR_nil {s : List Ent} (hs : entsOk 1 s = true) : lastR s [] = s := by
  rw [lastR_yes (by rw [hs]; rfl), lastV_nil hs, storeOf_valsOf hs]
theorem atK_lastR {s : List Ent} {l : List Ver} (hs : entsOk 1 s = true) (hl : versOk l = true) {n : Nat} (hn : n < 32) : atK (lastR s l) n = (rdV s l n 10).1 := by
  rw [lastR_yes (by rw [hs, hl]; rfl), atK_storeOf (lastV_in hs hl) hn, rdV_yes (by simp only [rdOk, hs, hl, Bool.true_and, Bool.and_eq_true, inR_iff]; omega), List.getD_eq_getElem?_getD, lastV_get s l hn]
  rfl
theorem lastR_ok {s : List Ent} {l : List Ver} (hs : entsOk 1 s = true) (hl : versOk l = true) : entsOk 1 (lastR s l) = true := by
  rw [lastR_yes (by rw [hs, hl]; rfl)]; exact storeOf_ok (lastV_in hs hl)
end Go.Proofs.Ytkboefmkfpnpjaa
namespace Go.Proofs.Ytkboefmkfpnpjaa
open Go Go.RowKit Go.Proofs

set_option maxRecDepth 100000 in
set_option maxHeartbeats 4000000 in
theorem drawVersions_any (w0 w : World) (rb : Nat) (lim n : Int) (h : Rd w0 w rb lim) (hl : lim ≤ 50000) (hn0 : 0 ≤ n) (hn1 : n ≤ 1000000) :
    Calls Try.prog 93 #[.pointer (some ⟨rb, 0, none⟩), .int .i64 n] w fun e w' => ∃ v' l, e = .returned v' ∧ l.length ≤ 500 ∧ (∃ z : ExtR rb w, w' = z.val) ∧ Rd w0 w' rb (lim + 2000) ∧ Own Ver.enc 88 3 w.heap.size w' v' l := by
  have H := Lib.hid h
  have hL : LtS rb w := ⟨h.lt⟩
  have hLe : w0.heap.size ≤ w.heap.size := h.ext.size
  have hlt := h.lt
  clear h
  go_enter Try.func93, Try.ntmps93
  go_wp2_with fail
  refine (pick_any w0 _ rb lim 6 (H.out.up (by repeat (first | (with_reducible exact Ext.refl _) | (with_reducible refine Ext.up ?_ _) | (with_reducible refine Ext.alloc ?_ _) | (with_reducible refine Ext.drew ?_) | (with_reducible refine Ext.setRow ?_ (by first | exact LeS.le | exact LeS.add _ | (simp; done) | (simp; omega)) _) | (with_reducible refine Ext.setCell ?_ (by first | exact LeS.le | exact LeS.add _ | (simp; done) | (simp; omega)) _)))) (by omega) (by omega) (by omega)).mono ?_; rintro e w' ⟨j0, rfl, j00, j01, j02, ⟨z0, rfl⟩, hr⟩
  have H0 := Lib.hid hr
  have hj := j01 (by omega)
  clear hr j01 j02
  go_wp2_with fail
  go_loopw [5, 6] (fun s5 s6 wr => ∃ (j : Int) (out : List Ver), s6 = .int .i64 j ∧ 0 ≤ j ∧ j ≤ 5 ∧ out.length + 64 * j ≤ 400 ∧ (∃ z : ExtR rb w, wr = z.val) ∧ Rd w0 wr rb (lim + 1700 - 300 * j) ∧ Own Ver.enc 88 3 w.heap.size wr s5 out) (fun _ s6 _ => (intOf s6).toNat)
  case atStart =>
    refine ⟨j0, [], rfl, j00, by omega, by simp; omega, ExtR.of (by repeat (first | (with_reducible exact grownBy_refl _ _) | (with_reducible refine GB.setNew ?_ (by first | exact LeS.le | exact LeS.add _ | (simp; done) | (simp; omega)) _ _) | (with_reducible refine GB.alloc ?_ _) | (with_reducible refine GB.drew ?_) | (with_reducible refine GB.upR ?_ _) | (with_reducible refine GB.up ?_ _))), H0.out.mono (by omega), ?_⟩
    have o0 : Own Ver.enc 88 3 w.heap.size (w.alloc (.cells #[] 88)) (.slice (some ⟨w.heap.size, 0, none⟩) 0 0) [] := Own.lit rfl (Nat.le_refl _) rfl rfl Ver.enc_length (by simp)
    exact Own.upR o0 hlt z0
  case round =>
    obtain ⟨j, out, rfl, jj0, jj5, hol, ⟨z, rfl⟩, hr, hown⟩ := hrel
    have H1 := Lib.hid hr; have HO := Lib.hid hown
    have hLz : LtS rb z.val := ⟨hr.lt⟩
    clear hr hown
    by_cases hjz : 0 < j
    · go_wp2_with fail
      refine (pick_any w0 _ rb _ 10 H1.out (by omega) (by omega) (by omega)).mono ?_; rintro e w' ⟨by_, rfl, y0, y1, y2, ⟨z1, rfl⟩, hr⟩
      have H2 := Lib.hid hr; clear hr y1 y2
      go_wp2_with fail
      refine (drawEffect0 w0 _ rb _ H2.out (by omega)).mono ?_; rintro e w' ⟨d, vr, vw, u, rfl, ⟨p1, n1, c1, rfl⟩, hu, ⟨z2, rfl⟩, hr, ou⟩
      have H3 := Lib.hid hr; have OU := Lib.hid ou
      have hul := entsOk_len hu
      obtain ⟨p2, c2, rfl, _, _⟩ := (ou.sl Ent.enc_length).openc
      clear hr ou
      have HO2 := Lib.hid ((HO.out.upR hlt z1).upR hlt z2)
      have hfd : ∀ w : World, (Instr.field 40 (.agg #[.bool d, .slice p1 n1 c1, .slice p2 u.length c2]) 2).run Try.prog w = .ok (.slice p2 u.length c2) w := fun _ => by kernel_rfl
      go_wp2_with fail
      clear hfd
      refine (sPutVersions_any out u _ _ by_ _ (HO2.out.sl Ver.enc_length) (OU.out.sl Ent.enc_length) (by omega) (by omega)).mono ?_; rintro e w' ⟨v7, rfl, ⟨z3, rfl⟩, o7⟩
      have O7 := Lib.hid o7; clear o7
      have hsz : w.heap.size ≤ z2.val.heap.size := Nat.le_trans (Nat.le_trans z.grown.size z1.grown.size) z2.grown.size
      go_wp2_with fail
      go_roundw
      case rel => exact ⟨j - 1, _, by go_num, by omega, by omega, by have := putR_le out by_ u; omega, ExtR.of (GB.up (GB.upR (GB.upR z.grown z1) z2) z3), (H3.out.up z3.ext).mono (by omega), O7.out.lo hsz⟩
      case measure => simp [intOf]; omega
    · obtain rfl : j = 0 := by omega
      go_wp2_with fail
      refine (odd_any w0 _ rb _ n H1.out (by omega) (by omega) (by omega)).mono ?_; rintro e w' ⟨bo, rfl, hbo, ⟨z1, rfl⟩, hr⟩
      have H2 := Lib.hid hr; clear hr hbo
      have HO1 := Lib.hid (HO.out.upR hlt z1)
      rcases bo with _ | _
      · go_wp2_with fail
        go_ret
        exact ⟨_, out, rfl, by omega, ExtR.of (GB.upR z.grown z1), H2.out.mono (by omega), HO1.out⟩
      · go_wp2_with fail
        refine (pick_any w0 _ rb _ 3 H2.out (by omega) (by omega) (by omega)).mono ?_; rintro e w' ⟨q, rfl, q0, q1, q2, ⟨z2, rfl⟩, hr⟩
        have H3 := Lib.hid hr; clear hr
        have HO2 := Lib.hid (HO1.out.upR hlt z2)
        have hq1 := q1 (by omega)
        clear q1 q2
        have HG := Lib.hid (GB.upR (GB.upR z.grown z1) z2)
        have hLz2 : LtS rb z2.val := ⟨H3.out.lt⟩
        have hq : q = 0 ∨ q = 1 ∨ q = 2 := by omega
        rcases hq with rfl | rfl | rfl
        · go_wp2_with (first | (at_builtin; refine wpList_pushG fVer rfl (.tmp 35) (.tmp 37) rfl Ver.enc Ver.enc_length w0 (lo := w.heap.size) [⟨0, 0, 1⟩] out rfl HO2.out H3.out.ext hLe (by have := HG.out.size; first | omega | (simp; omega)) rfl rfl (by go_simp) rfl (oneVs _) (by simp; omega) (by simp; omega) ?_; intro v7 z7 o7 g7 b7; clear b7; obtain ⟨R7, z8, hz8⟩ := rd_push (w := w) H3.out HG.out HO2.out hlt (Nat.le_refl _) z7.ext g7; have G7 := Lib.hid (show w.grownBy z7.val (some rb) from hz8 ▸ z8.grown); have HR7 := Lib.hid R7; have O7 := Lib.hid o7; clear g7 R7 o7 hz8) | (at_builtin; refine wpList_pushG fVer rfl (.tmp 39) (.tmp 41) rfl Ver.enc Ver.enc_length w0 (lo := w.heap.size) [⟨0, 0, 1⟩] (out ++ [(⟨0, 0, 1⟩ : Ver)]) rfl O7.out HR7.out.ext hLe (by have := G7.out.size; first | omega | (simp; omega)) rfl rfl (by go_simp) rfl (oneVs _) (by simp; omega) (by simp; omega) ?_; intro v9 z9 o9 g9 b9; clear b9; obtain ⟨R9, E9⟩ := rd_push (w := w) HR7.out G7.out O7.out hlt (Nat.le_refl _) z9.ext g9; clear g9))
          go_ret
          exact ⟨_, _, rfl, by simp; omega, E9, R9.mono (by omega), o9⟩
        · go_wp2_with (at_builtin; refine wpList_pushG fVer rfl (.tmp 45) (.tmp 47) rfl Ver.enc Ver.enc_length w0 (lo := w.heap.size) [⟨31, 10, 0⟩] out rfl HO2.out H3.out.ext hLe (by have := HG.out.size; first | omega | (simp; omega)) rfl rfl (by go_simp) rfl (oneVs _) (by simp; omega) (by simp; omega) ?_; intro v7 z7 o7 g7 b7; clear b7; obtain ⟨R7, E7⟩ := rd_push (w := w) H3.out HG.out HO2.out hlt (Nat.le_refl _) z7.ext g7; clear g7)
          go_ret
          exact ⟨_, _, rfl, by simp; omega, E7, R7.mono (by omega), o7⟩
        · go_wp2_with (at_builtin; refine wpList_pushG fVer rfl (.tmp 29) (.tmp 31) rfl Ver.enc Ver.enc_length w0 (lo := w.heap.size) [⟨31, 1, 1000001⟩] out rfl HO2.out H3.out.ext hLe (by have := HG.out.size; first | omega | (simp; omega)) rfl rfl (by go_simp) rfl (oneVs _) (by simp; omega) (by simp; omega) ?_; intro v7 z7 o7 g7 b7; clear b7; obtain ⟨R7, E7⟩ := rd_push (w := w) H3.out HG.out HO2.out hlt (Nat.le_refl _) z7.ext g7; clear g7)
          go_ret
          exact ⟨_, _, rfl, by simp; omega, E7, R7.mono (by omega), o7⟩
end Go.Proofs.Ytkboefmkfpnpjaa
namespace Go.Proofs.Ytkboefmkfpnpjaa
open Go Go.RowKit Go.Proofs

set_option maxHeartbeats 1000000 in
theorem sameVersions_same (l : List Ver) (v v' : Value) (w : World) (h : SL (RF Ver.enc) 3 w v l) (h' : SL (RF Ver.enc) 3 w v' l) :
    Calls Try.prog 42 #[v, v'] w fun e w' => e = .returned (.bool true) ∧ Up w w' := by
  obtain ⟨a, cap, rfl, hlen, hc⟩ := h.open
  obtain ⟨a', cap', rfl, _, hc'⟩ := h'.open
  go_enter Try.func42, Try.ntmps42
  go_wp2_with fail
  go_loopw [5] (fun s5 wr => ∃ (k : Nat), s5 = .int .i64 k ∧ k ≤ l.length ∧ Up w wr) (fun s5 _ => l.length - (intOf s5).toNat)
  case atStart => exact ⟨0, rfl, Nat.zero_le _, .of (Ext.refl _)⟩
  case round =>
    obtain ⟨k, rfl, hk, ⟨z, rfl⟩⟩ := hrel
    by_cases hlt : k < l.length
    · obtain ⟨x, hxk⟩ := getElem?_some_of_lt hlt
      obtain ⟨b, off, rfl, hb, hcc⟩ := hc k x hxk
      obtain ⟨b', off', rfl, hb', hdd⟩ := hc' k x hxk
      have c0 : w.cell? ⟨b, off + k * 3, none⟩ = some (.int .i64 x.k) := hcc 0 _ rfl
      have d0 : w.cell? ⟨b', off' + k * 3, none⟩ = some (.int .i64 x.k) := hdd 0 _ rfl
      have c1 : w.cell? ⟨b, off + k * 3 + 1, none⟩ = some (.int .i64 x.b) := hcc 1 _ rfl
      have d1 : w.cell? ⟨b', off' + k * 3 + 1, none⟩ = some (.int .i64 x.b) := hdd 1 _ rfl
      have c2 : w.cell? ⟨b, off + k * 3 + 2, none⟩ = some (.int .i64 x.v) := hcc 2 _ rfl
      have d2 : w.cell? ⟨b', off' + k * 3 + 2, none⟩ = some (.int .i64 x.v) := hdd 2 _ rfl
      have k0 : (0 : Int) ≤ (k : Int) := by omega
      clear hc hcc hc' hdd hxk
      go_wp2_with fail
      (refine wp_region_up (by kernel_rfl) (by kernel_rfl) ?_; (repeat (go_big_quiet_step (fail))); refine wpQuiet_nil ?_; intro _ hw'; obtain ⟨zq, hw''⟩ := hw'; subst hw'')
      go_wp2_with fail
      go_roundw
      case rel => exact ⟨k + 1, by go_num, by omega, (.of (by repeat (first | (with_reducible exact Ext.refl _) | (with_reducible refine Ext.up ?_ _) | (with_reducible refine Ext.alloc ?_ _) | (with_reducible refine Ext.drew ?_) | (with_reducible refine Ext.setRow ?_ (by first | exact LeS.le | exact LeS.add _ | (simp; done) | (simp; omega)) _) | (with_reducible refine Ext.setCell ?_ (by first | exact LeS.le | exact LeS.add _ | (simp; done) | (simp; omega)) _))))⟩
      case measure => simp [intOf]; omega
    · go_wp2_with fail
      go_ret
      exact ⟨rfl, z, rfl⟩
set_option maxHeartbeats 1000000 in
theorem sameStore_same (l : List Ent) (v v' : Value) (w : World) (h : SL (RF Ent.enc) 2 w v l) (h' : SL (RF Ent.enc) 2 w v' l) :
    Calls Try.prog 20 #[v, v'] w fun e w' => e = .returned (.bool true) ∧ Up w w' := by
  obtain ⟨a, cap, rfl, hlen, hc⟩ := h.open
  obtain ⟨a', cap', rfl, _, hc'⟩ := h'.open
  go_enter Try.func20, Try.ntmps20
  go_wp2_with fail
  go_loopw [5] (fun s5 wr => ∃ (k : Nat), s5 = .int .i64 k ∧ k ≤ l.length ∧ Up w wr) (fun s5 _ => l.length - (intOf s5).toNat)
  case atStart => exact ⟨0, rfl, Nat.zero_le _, .of (Ext.refl _)⟩
  case round =>
    obtain ⟨k, rfl, hk, ⟨z, rfl⟩⟩ := hrel
    by_cases hlt : k < l.length
    · obtain ⟨x, hxk⟩ := getElem?_some_of_lt hlt
      obtain ⟨b, off, rfl, hb, hcc⟩ := hc k x hxk
      obtain ⟨b', off', rfl, hb', hdd⟩ := hc' k x hxk
      have c0 : w.cell? ⟨b, off + k * 2, none⟩ = some (.int .i64 x.k) := hcc 0 _ rfl
      have d0 : w.cell? ⟨b', off' + k * 2, none⟩ = some (.int .i64 x.k) := hdd 0 _ rfl
      have c1 : w.cell? ⟨b, off + k * 2 + 1, none⟩ = some (.int .i64 x.v) := hcc 1 _ rfl
      have d1 : w.cell? ⟨b', off' + k * 2 + 1, none⟩ = some (.int .i64 x.v) := hdd 1 _ rfl
      have k0 : (0 : Int) ≤ (k : Int) := by omega
      clear hc hcc hc' hdd hxk
      go_wp2_with fail
      (refine wp_region_up (by kernel_rfl) (by kernel_rfl) ?_; (repeat (go_big_quiet_step (fail))); refine wpQuiet_nil ?_; intro _ hw'; obtain ⟨zq, hw''⟩ := hw'; subst hw'')
      go_wp2_with fail
      go_roundw
      case rel => exact ⟨k + 1, by go_num, by omega, (.of (by repeat (first | (with_reducible exact Ext.refl _) | (with_reducible refine Ext.up ?_ _) | (with_reducible refine Ext.alloc ?_ _) | (with_reducible refine Ext.drew ?_) | (with_reducible refine Ext.setRow ?_ (by first | exact LeS.le | exact LeS.add _ | (simp; done) | (simp; omega)) _) | (with_reducible refine Ext.setCell ?_ (by first | exact LeS.le | exact LeS.add _ | (simp; done) | (simp; omega)) _))))⟩
      case measure => simp [intOf]; omega
    · go_wp2_with fail
      go_ret
      exact ⟨rfl, z, rfl⟩
end Go.Proofs.Ytkboefmkfpnpjaa
namespace Go.Proofs.Ytkboefmkfpnpjaa
open Go Go.RowKit Go.Proofs

theorem runV_congr {x : Actn} (hx : x.ok = true) {v v' : List Int} (h : ∀ k ∈ x.rk, v.getD k.toNat 0 = v'.getD k.toNat 0) : runV v x = runV v' x := by
  obtain ⟨kd, a, b, m⟩ := x
  simp only [Actn.ok, Bool.and_eq_true] at hx
  have hko := hx.2.2.2
  unfold kindOk at hko
  unfold runV
  dsimp only
  unfold Actn.rk at h
  dsimp only at h hko
  by_cases hab : a = b
  · subst hab
    by_cases h1 : kd = 1
    · subst h1; simp [runE, Actn.don, Actn.rds, Actn.rk, Actn.wrs]
    · have e : v.getD a.toNat 0 = v'.getD a.toNat 0 := h a (by rw [if_neg h1]; simp)
      rw [e]
  · rcases kinds kd with rfl | rfl | rfl | rfl | rfl | rfl | ⟨n1, n2, n3, n4, n5, n6⟩
    · simp [runE, Actn.don, Actn.rds, Actn.rk, Actn.wrs]
    · have e1 := h a (by simp [hab]); have e2 := h b (by simp [hab]); rw [e1, e2]
    · have e1 := h a (by simp); rw [e1]; simp [runE, Actn.don, Actn.rds, Actn.rk, Actn.wrs]
    · have e1 := h a (by simp [hab]); have e2 := h b (by simp [hab]); rw [e1, e2]
    · have e1 := h a (by simp [hab]); have e2 := h b (by simp [hab]); rw [e1, e2]
    · have e1 := h a (by simp); rw [e1]; simp [runE, Actn.don, Actn.rds, Actn.rk, Actn.wrs]
    · exfalso; rw [if_neg (by omega), if_neg (by omega), decide_eq_true_eq] at hko; omega
theorem vsets_cons (v : List Int) (e : Ent) (l : List Ent) : vsets v (e :: l) = vsets (vset v e) l := rfl
theorem vsets_getD : ∀ (l : List Ent) (v : List Int) (k : Int), 0 ≤ k → (∀ e ∈ l, 0 ≤ e.k ∧ e.k ≠ k) → (vsets v l).getD k.toNat 0 = v.getD k.toNat 0
  | [], _, _, _, _ => rfl
  | e :: l, v, k, k0, h => by
    have h1 := h e (by simp)
    rw [vsets_cons, vsets_getD l _ k k0 fun x hx => h x (by simp [hx])]
    unfold vset
    simp only [List.getD_eq_getElem?_getD]
    rw [List.getElem?_set_ne (by omega)]
theorem vset_vsets : ∀ (l : List Ent) (v : List Int) (e : Ent), 0 ≤ e.k → (∀ x ∈ l, 0 ≤ x.k ∧ x.k ≠ e.k) → vsets (vset v e) l = vset (vsets v l) e
  | [], _, _, _, _ => rfl
  | x :: l, v, e, e0, h => by
    have h1 := h x (by simp)
    rw [vsets_cons, vsets_cons]
    have : vset (vset v e) x = vset (vset v x) e := by unfold vset; rw [List.set_comm _ _ (by omega)]
    rw [this, vset_vsets l _ e e0 fun y hy => h y (by simp [hy])]
theorem vsets_comm : ∀ (a b : List Ent) (v : List Int), (∀ x ∈ a, 0 ≤ x.k) → (∀ y ∈ b, 0 ≤ y.k) → (∀ x ∈ a, ∀ y ∈ b, x.k ≠ y.k) → vsets (vsets v a) b = vsets (vsets v b) a
  | [], _, _, _, _, _ => rfl
  | e :: a, b, v, ha, hb, h => by
    rw [vsets_cons, vsets_comm a b _ (fun x hx => ha x (by simp [hx])) hb (fun x hx => h x (by simp [hx])), vset_vsets b v e (ha e (by simp)) fun y hy => ⟨hb y hy, fun e' => h e (by simp) y hy e'.symm⟩]
    rfl
theorem runV_keys {x : Actn} (hx : x.ok = true) (v : List Int) : ∀ e ∈ (runV v x).w, e.k ∈ x.wk := by
  intro e he
  have hk := wrs_keys hx (v.getD x.src.toNat 0) (v.getD x.dst.toNat 0)
  unfold runV runE at he
  dsimp only at he
  split at he
  · rw [← hk]; exact List.mem_map.2 ⟨e, he, rfl⟩
  · cases he
theorem not_common {a b : List Int} (h : common a b = false) {k : Int} (ha : k ∈ a) (hb : k ∈ b) : False := by
  have : common a b = true := by
    simp only [common, List.any_eq_true, List.contains_iff_mem]
    exact ⟨k, ha, hb⟩
  rw [this] at h; cases h
theorem conf_parts {x y : Actn} (h : conf x y = false) : common x.wk y.wk = false ∧ common x.wk y.rk = false ∧ common x.rk y.wk = false := by
  simp only [conf, Bool.or_eq_false_iff] at h
  exact ⟨h.1, h.2.1, h.2.2⟩
/-- What an action does behind another with which it is not in conflict. -/
theorem runV_after {x y : Actn} (hx : x.ok = true) (hy : y.ok = true) (h : common x.rk y.wk = false) (v u : List Int) : runV (vsets v (runV u y).w) x = runV v x := by
  refine runV_congr hx fun k hk => ?_
  refine vsets_getD _ _ _ (Actn.rk_in hx k hk).1 fun e he => ?_
  have hm := runV_keys hy u e he
  exact ⟨(Actn.wk_in hy _ hm).1, fun e' => not_common h hk (e' ▸ hm)⟩
theorem common_symm (a b : List Int) : common a b = common b a := by
  rw [Bool.eq_iff_iff]
  simp only [common, List.any_eq_true, List.contains_iff_mem]
  constructor
  · rintro ⟨k, h1, h2⟩; exact ⟨k, h2, h1⟩
  · rintro ⟨k, h1, h2⟩; exact ⟨k, h2, h1⟩
theorem step_comm {x y : Actn} (hx : x.ok = true) (hy : y.ok = true) (h : conf x y = false) (v : List Int) :
    runV (vsets v (runV v x).w) y = runV v y ∧ runV (vsets v (runV v y).w) x = runV v x ∧ vsets (vsets v (runV v x).w) (runV v y).w = vsets (vsets v (runV v y).w) (runV v x).w := by
  obtain ⟨h1, h2, h3⟩ := conf_parts h
  refine ⟨runV_after hy hx (by rw [common_symm]; exact h2) v v, runV_after hx hy h3 v v, vsets_comm _ _ _ ?_ ?_ ?_⟩
  · intro e he; exact (Actn.wk_in hx _ (runV_keys hx v e he)).1
  · intro e he; exact (Actn.wk_in hy _ (runV_keys hy v e he)).1
  · intro e he e' he' ek
    exact not_common h1 (runV_keys hx v e he) (ek ▸ runV_keys hy v e' he')
theorem foldl_run : ∀ (l : List Actn) (v : List Int) (es : List Eff), l.foldl runStep (v, es) = ((runAll v l).1, es ++ (runAll v l).2)
  | [], v, es => by simp [runAll]
  | x :: l, v, es => by
    unfold runAll
    rw [List.foldl_cons, List.foldl_cons]
    show l.foldl runStep (vsets v (runV v x).w, es ++ [runV v x]) = _
    rw [foldl_run l]
    show _ = ((l.foldl runStep (vsets v (runV v x).w, [] ++ [runV v x])).1, es ++ (l.foldl runStep (vsets v (runV v x).w, [] ++ [runV v x])).2)
    rw [foldl_run l]
    simp
theorem runAll_cons (v : List Int) (x : Actn) (l : List Actn) : runAll v (x :: l) = ((runAll (vsets v (runV v x).w) l).1, runV v x :: (runAll (vsets v (runV v x).w) l).2) := by
  have := foldl_run l (vsets v (runV v x).w) [runV v x]
  unfold runAll
  rw [List.foldl_cons]
  show l.foldl runStep (vsets v (runV v x).w, [] ++ [runV v x]) = _
  rw [List.nil_append, this]; rfl
/-- An action that is not in conflict with those behind it may stand at their end. -/
theorem run_move {x : Actn} (hx : x.ok = true) : ∀ (B : List Actn) (v : List Int), (∀ y ∈ B, y.ok = true ∧ conf x y = false) →
    (runAll (vsets v (runV v x).w) B).2 = (runAll v B).2 ∧ runV (runAll v B).1 x = runV v x ∧ (runAll (vsets v (runV v x).w) B).1 = vsets (runAll v B).1 (runV v x).w
  | [], v, _ => ⟨rfl, rfl, rfl⟩
  | y :: B, v, h => by
    obtain ⟨hy, hc⟩ := h y (by simp)
    obtain ⟨s1, s2, s3⟩ := step_comm hx hy hc v
    obtain ⟨i1, i2, i3⟩ := run_move hx B (vsets v (runV v y).w) fun z hz => h z (by simp [hz])
    rw [s2] at i1 i2 i3
    rw [runAll_cons, runAll_cons, s1, s3]
    exact ⟨by rw [i1], i2, i3⟩
/-- Two that are not in conflict, in both orders. -/
theorem run_two {x y : Actn} (hx : x.ok = true) (hy : y.ok = true) (h : conf x y = false) (v : List Int) :
    (runAll v [x, y]).1 = (runAll v [y, x]).1 ∧ (runAll v [x, y]).2 = [runV v x, runV v y] ∧ (runAll v [y, x]).2 = [runV v y, runV v x] := by
  obtain ⟨s1, s2, s3⟩ := step_comm hx hy h v
  refine ⟨?_, ?_, ?_⟩
  · simp only [runAll_cons, s1, s2, s3]
  · simp only [runAll_cons, s1]; rfl
  · simp only [runAll_cons, s2]; rfl
end Go.Proofs.Ytkboefmkfpnpjaa
