/- Walks: FnExactLastVersions: the store that remains. -/
import Derived.Test.YtjmjmdncpeeemaaRdV
namespace Go.Proofs.Ytjmjmdncpeeemaa
open Go Go.RowKit Go.Proofs

def lastR (s : List Ent) (l : List Ver) : List Ent := if (entsOk 1 s && versOk l) = true then storeOf (lastV s l) else []
theorem lastR_no {s : List Ent} {l : List Ver} (h : (entsOk 1 s && versOk l) = false) : lastR s l = [] := by unfold lastR; rw [h]; rfl
theorem lastR_yes {s : List Ent} {l : List Ver} (h : (entsOk 1 s && versOk l) = true) : lastR s l = storeOf (lastV s l) := by unfold lastR; rw [h]; rfl
theorem lastR_le (s : List Ent) (l : List Ver) : (lastR s l).length ≤ 32 := by unfold lastR; split; exact storeOf_le _; simp
set_option maxHeartbeats 2000000 in
theorem sLastVersions_any (s : List Ent) (l : List Ver) (u v : Value) (w : World) (hs : SL (RF Ent.enc) 2 w u s) (h : SL (RF Ver.enc) 3 w v l) :
    Calls Try.prog 57 #[u, v] w fun e w' => ∃ v', e = .returned v' ∧ Up w w' ∧ Own Ent.enc 102 2 w.heap.size w' v' (lastR s l) := by
  have Hs := Lib.hid hs; have H := Lib.hid h
  clear h hs
  rcases guards2 (entsOk 1 s) (versOk l) with h1 | ⟨h1, h2⟩ | ⟨h1, h2⟩
  case inr.inr =>
    rw [lastR_yes (by simp [*])]
    go_enter Try.func57, Try.ntmps57
    go_wp2_with fail
    go_loopw [5, 6, 7, 8] (fun s5 s6 _ _ wr => ∃ k : Nat, s6 = .int .i64 k ∧ k ≤ 32 ∧ Up w wr ∧ Own Ent.enc 102 2 w.heap.size wr s5 (stTo (lastV s l) k)) (fun _ s6 _ _ _ => 32 - (intOf s6).toNat)
    case atStart => exact ⟨0, rfl, Nat.zero_le _, (.of (by repeat (first | exact Ext.refl _ | refine Ext.up ?_ _ | refine Ext.alloc ?_ _ | refine Ext.drew ?_ | refine Ext.setRow ?_ (by first | (dsimp only; omega) | exact LeS.le | exact LeS.add _ | (simp; done) | (simp; omega)) _ | refine Ext.setCell ?_ (by first | (dsimp only; omega) | exact LeS.le | exact LeS.add _ | (simp; done) | (simp; omega)) _))), Own.lit (by simp) (by simp) rfl rfl Ent.enc_length (by simp [stTo])⟩
    case round =>
      obtain ⟨k, rfl, hk, ⟨z, rfl⟩, hown⟩ := hrel
      by_cases hlt : k < 32
      · have hle : (stTo (lastV s l) k).length ≤ k := stTo_len _ k
        have hx := lastV_get s l hlt
        have Hown := Lib.hid hown
        by_cases hp : 0 < (readV (atK s k) l k 10).1
        · have Hst := Lib.hid (stTo_yes hx hp)
          have hp' : decide (0 < (readV (atK s k) l k 10).1) = true := by simpa using hp
          clear hown hx
          go_wp2_with (first | (go_at_call 85; refine (sStoreValid_any s _ _ (Hs.out.up (by repeat (first | exact Ext.refl _ | refine Ext.up ?_ _ | refine Ext.alloc ?_ _ | refine Ext.drew ?_ | refine Ext.setRow ?_ (by first | (dsimp only; omega) | exact LeS.le | exact LeS.add _ | (simp; done) | (simp; omega)) _ | refine Ext.setCell ?_ (by first | (dsimp only; omega) | exact LeS.le | exact LeS.add _ | (simp; done) | (simp; omega)) _)))).mono ?_; rintro e w' ⟨rfl, z1, rfl⟩) | (go_at_call 24; refine (sVersionsValid_any l _ _ (H.out.up (by repeat (first | exact Ext.refl _ | refine Ext.up ?_ _ | refine Ext.alloc ?_ _ | refine Ext.drew ?_ | refine Ext.setRow ?_ (by first | (dsimp only; omega) | exact LeS.le | exact LeS.add _ | (simp; done) | (simp; omega)) _ | refine Ext.setCell ?_ (by first | (dsimp only; omega) | exact LeS.le | exact LeS.add _ | (simp; done) | (simp; omega)) _)))).mono ?_; rintro e w' ⟨rfl, z2, rfl⟩) | (go_at_call 86; refine (l9Read_any s l _ _ _ _ _ (Hs.out.up (by repeat (first | exact Ext.refl _ | refine Ext.up ?_ _ | refine Ext.alloc ?_ _ | refine Ext.drew ?_ | refine Ext.setRow ?_ (by first | (dsimp only; omega) | exact LeS.le | exact LeS.add _ | (simp; done) | (simp; omega)) _ | refine Ext.setCell ?_ (by first | (dsimp only; omega) | exact LeS.le | exact LeS.add _ | (simp; done) | (simp; omega)) _))) (H.out.up (by repeat (first | exact Ext.refl _ | refine Ext.up ?_ _ | refine Ext.alloc ?_ _ | refine Ext.drew ?_ | refine Ext.setRow ?_ (by first | (dsimp only; omega) | exact LeS.le | exact LeS.add _ | (simp; done) | (simp; omega)) _ | refine Ext.setCell ?_ (by first | (dsimp only; omega) | exact LeS.le | exact LeS.add _ | (simp; done) | (simp; omega)) _)))).mono ?_; rintro e w' ⟨rfl, rfl⟩) | (at_builtin; refine wpList_push1 fEnt rfl (.tmp 31) (.tmp 35) rfl Ent.enc w ⟨(k : Int), (readV (atK s k) l k 10).1⟩ (stTo (lastV s l) k) rfl (Hown.out.up (by repeat (first | exact Ext.refl _ | refine Ext.up ?_ _ | refine Ext.alloc ?_ _ | refine Ext.drew ?_ | refine Ext.setRow ?_ (by first | (dsimp only; omega) | exact LeS.le | exact LeS.add _ | (simp; done) | (simp; omega)) _ | refine Ext.setCell ?_ (by first | (dsimp only; omega) | exact LeS.le | exact LeS.add _ | (simp; done) | (simp; omega)) _))) (by repeat (first | exact Ext.refl _ | refine Ext.up ?_ _ | refine Ext.alloc ?_ _ | refine Ext.drew ?_ | refine Ext.setRow ?_ (by first | (dsimp only; omega) | exact LeS.le | exact LeS.add _ | (simp; done) | (simp; omega)) _ | refine Ext.setCell ?_ (by first | (dsimp only; omega) | exact LeS.le | exact LeS.add _ | (simp; done) | (simp; omega)) _)) rfl (by go_simp) rfl rfl (oneE _) (by omega) (by omega) ?_; intro v1 z3 hown1))
          have hown2 := Lib.hid hown1; clear hown1
          go_wp2_with fail
          go_roundw
          case rel => exact ⟨k + 1, by go_num, by omega, (.of (by repeat (first | exact Ext.refl _ | refine Ext.up ?_ _ | refine Ext.alloc ?_ _ | refine Ext.drew ?_ | refine Ext.setRow ?_ (by first | (dsimp only; omega) | exact LeS.le | exact LeS.add _ | (simp; done) | (simp; omega)) _ | refine Ext.setCell ?_ (by first | (dsimp only; omega) | exact LeS.le | exact LeS.add _ | (simp; done) | (simp; omega)) _))), by rw [Hst.out]; exact hown2.out⟩
          case measure => simp [intOf]; omega
        · have Hst := Lib.hid (stTo_no hx hp)
          have hp' : decide (0 < (readV (atK s k) l k 10).1) = false := by simpa using hp
          clear hown hx
          go_wp2_with (first | (go_at_call 85; refine (sStoreValid_any s _ _ (Hs.out.up (by repeat (first | exact Ext.refl _ | refine Ext.up ?_ _ | refine Ext.alloc ?_ _ | refine Ext.drew ?_ | refine Ext.setRow ?_ (by first | (dsimp only; omega) | exact LeS.le | exact LeS.add _ | (simp; done) | (simp; omega)) _ | refine Ext.setCell ?_ (by first | (dsimp only; omega) | exact LeS.le | exact LeS.add _ | (simp; done) | (simp; omega)) _)))).mono ?_; rintro e w' ⟨rfl, z1, rfl⟩) | (go_at_call 24; refine (sVersionsValid_any l _ _ (H.out.up (by repeat (first | exact Ext.refl _ | refine Ext.up ?_ _ | refine Ext.alloc ?_ _ | refine Ext.drew ?_ | refine Ext.setRow ?_ (by first | (dsimp only; omega) | exact LeS.le | exact LeS.add _ | (simp; done) | (simp; omega)) _ | refine Ext.setCell ?_ (by first | (dsimp only; omega) | exact LeS.le | exact LeS.add _ | (simp; done) | (simp; omega)) _)))).mono ?_; rintro e w' ⟨rfl, z2, rfl⟩) | (go_at_call 86; refine (l9Read_any s l _ _ _ _ _ (Hs.out.up (by repeat (first | exact Ext.refl _ | refine Ext.up ?_ _ | refine Ext.alloc ?_ _ | refine Ext.drew ?_ | refine Ext.setRow ?_ (by first | (dsimp only; omega) | exact LeS.le | exact LeS.add _ | (simp; done) | (simp; omega)) _ | refine Ext.setCell ?_ (by first | (dsimp only; omega) | exact LeS.le | exact LeS.add _ | (simp; done) | (simp; omega)) _))) (H.out.up (by repeat (first | exact Ext.refl _ | refine Ext.up ?_ _ | refine Ext.alloc ?_ _ | refine Ext.drew ?_ | refine Ext.setRow ?_ (by first | (dsimp only; omega) | exact LeS.le | exact LeS.add _ | (simp; done) | (simp; omega)) _ | refine Ext.setCell ?_ (by first | (dsimp only; omega) | exact LeS.le | exact LeS.add _ | (simp; done) | (simp; omega)) _)))).mono ?_; rintro e w' ⟨rfl, rfl⟩))
          go_roundw
          case rel => exact ⟨k + 1, by go_num, by omega, (.of (by repeat (first | exact Ext.refl _ | refine Ext.up ?_ _ | refine Ext.alloc ?_ _ | refine Ext.drew ?_ | refine Ext.setRow ?_ (by first | (dsimp only; omega) | exact LeS.le | exact LeS.add _ | (simp; done) | (simp; omega)) _ | refine Ext.setCell ?_ (by first | (dsimp only; omega) | exact LeS.le | exact LeS.add _ | (simp; done) | (simp; omega)) _))), by rw [Hst.out]; exact Hown.out.up (by repeat (first | exact Ext.refl _ | refine Ext.up ?_ _ | refine Ext.alloc ?_ _ | refine Ext.drew ?_ | refine Ext.setRow ?_ (by first | (dsimp only; omega) | exact LeS.le | exact LeS.add _ | (simp; done) | (simp; omega)) _ | refine Ext.setCell ?_ (by first | (dsimp only; omega) | exact LeS.le | exact LeS.add _ | (simp; done) | (simp; omega)) _))⟩
          case measure => simp [intOf]; omega
      · go_wp2_with fail
        go_ret
        obtain rfl : k = 32 := by omega
        exact ⟨_, rfl, ⟨z, rfl⟩, hown⟩
  all_goals
    rw [lastR_no (by simp [*])]
    go_enter Try.func57, Try.ntmps57
    go_wp2_with fail
    refine wp_loop_rounds 1 ?_; rw [rounds_succ]
    go_wp2_with (first | (go_at_call 85; refine (sStoreValid_any s _ _ (Hs.out.up (by repeat (first | exact Ext.refl _ | refine Ext.up ?_ _ | refine Ext.alloc ?_ _ | refine Ext.drew ?_ | refine Ext.setRow ?_ (by first | (dsimp only; omega) | exact LeS.le | exact LeS.add _ | (simp; done) | (simp; omega)) _ | refine Ext.setCell ?_ (by first | (dsimp only; omega) | exact LeS.le | exact LeS.add _ | (simp; done) | (simp; omega)) _)))).mono ?_; rintro e w' ⟨rfl, z1, rfl⟩) | (go_at_call 24; refine (sVersionsValid_any l _ _ (H.out.up (by repeat (first | exact Ext.refl _ | refine Ext.up ?_ _ | refine Ext.alloc ?_ _ | refine Ext.drew ?_ | refine Ext.setRow ?_ (by first | (dsimp only; omega) | exact LeS.le | exact LeS.add _ | (simp; done) | (simp; omega)) _ | refine Ext.setCell ?_ (by first | (dsimp only; omega) | exact LeS.le | exact LeS.add _ | (simp; done) | (simp; omega)) _)))).mono ?_; rintro e w' ⟨rfl, z2, rfl⟩))
    go_ret
    refine ⟨_, rfl, (.of (by repeat (first | exact Ext.refl _ | refine Ext.up ?_ _ | refine Ext.alloc ?_ _ | refine Ext.drew ?_ | refine Ext.setRow ?_ (by first | (dsimp only; omega) | exact LeS.le | exact LeS.add _ | (simp; done) | (simp; omega)) _ | refine Ext.setCell ?_ (by first | (dsimp only; omega) | exact LeS.le | exact LeS.add _ | (simp; done) | (simp; omega)) _))), ?_⟩
    first | exact (Own.lit (by simp) (by simp) rfl rfl Ent.enc_length (by simp)).up ((Ext.refl _).up _) | exact (Own.lit (by simp) (by simp) rfl rfl Ent.enc_length (by simp)).up (((Ext.refl _).up _).up _)
set_option maxRecDepth 100000 in
set_option maxHeartbeats 2000000 in
theorem iLastVersions_any (s : List Ent) (l : List Ver) (u v : Value) (w : World) (hs : SL (RF Ent.enc) 2 w u s) (h : SL (RF Ver.enc) 3 w v l) :
    Calls Try.prog 58 #[u, v] w fun e w' => ∃ v', e = .returned v' ∧ Up w w' ∧ Own Ent.enc 102 2 w.heap.size w' v' (lastR s l) := by
  have Hs := Lib.hid hs; have H := Lib.hid h
  clear h hs
  rcases guards2 (entsOk 1 s) (versOk l) with h1 | ⟨h1, h2⟩ | ⟨h1, h2⟩
  case inr.inr =>
    rw [lastR_yes (by simp [*])]
    have H1 := Lib.hid h1
    have tok1 : True := trivial
    have tok2 : True := trivial
    go_enter Try.func58, Try.ntmps58
    go_wp2_with (first | (go_at_call 88; refine (iStoreValid_any s _ _ (Hs.out.up (by repeat (first | exact Ext.refl _ | refine Ext.up ?_ _ | refine Ext.alloc ?_ _ | refine Ext.drew ?_ | refine Ext.setRow ?_ (by first | (dsimp only; omega) | exact LeS.le | exact LeS.add _ | (simp; done) | (simp; omega)) _ | refine Ext.setCell ?_ (by first | (dsimp only; omega) | exact LeS.le | exact LeS.add _ | (simp; done) | (simp; omega)) _)))).mono ?_; rintro e w' ⟨rfl, z1, rfl⟩) | (go_at_call 26; refine (iVersionsValid_any l _ _ (H.out.up (by repeat (first | exact Ext.refl _ | refine Ext.up ?_ _ | refine Ext.alloc ?_ _ | refine Ext.drew ?_ | refine Ext.setRow ?_ (by first | (dsimp only; omega) | exact LeS.le | exact LeS.add _ | (simp; done) | (simp; omega)) _ | refine Ext.setCell ?_ (by first | (dsimp only; omega) | exact LeS.le | exact LeS.add _ | (simp; done) | (simp; omega)) _)))).mono ?_; rintro e w' ⟨rfl, z2, rfl⟩) | (go_at_call 90; refine (valuesOf_any 1 s _ _ (Hs.out.up (by repeat (first | exact Ext.refl _ | refine Ext.up ?_ _ | refine Ext.alloc ?_ _ | refine Ext.drew ?_ | refine Ext.setRow ?_ (by first | (dsimp only; omega) | exact LeS.le | exact LeS.add _ | (simp; done) | (simp; omega)) _ | refine Ext.setCell ?_ (by first | (dsimp only; omega) | exact LeS.le | exact LeS.add _ | (simp; done) | (simp; omega)) _))) H1.out).mono ?_; rintro e w' ⟨rfl, z3, rfl⟩) | (have _t := tok1; refine wpList_store_new rfl _ _ _ rfl rfl rfl rfl (by rw [valsOf_length]; exact Try.sVals) (by rw [valsOf_length]; rfl) ?_; intro z4 r4; clear _t tok1) | (have _t := tok2; refine wpList_store_new rfl _ _ _ rfl rfl rfl rfl (by rw [valsOf_length]; exact Try.sVals) (by rw [valsOf_length]; rfl) ?_; intro z5 r5; clear _t tok2) | (refine wpList_load_row rfl _ _ rfl _ rfl _ _ _ _ r4.eq Try.underlying107 rfl (by rw [vA_size, valsOf_length]; exact Try.sVals) ?_))
    have Hne := Lib.hid (show z3.val.heap.size ≠ z4.val.heap.size by have := r4.lt; omega)
    have R4 := Lib.hid (r4.up z5.ext); have R5 := Lib.hid r5
    clear r4 r5
    go_loopw [7, 19] (fun _ s19 wr => ∃ k : Nat, s19 = .int .i64 k ∧ k ≤ 32 ∧ Up w wr ∧ Row 107 wr z3.val.heap.size (valsOf s) ∧ Row 107 wr z4.val.heap.size (mixV (lastV s l) (valsOf s) k)) (fun _ s19 _ => 32 - (intOf s19).toNat)
    case atStart => exact ⟨0, rfl, Nat.zero_le _, (.of (by repeat (first | exact Ext.refl _ | refine Ext.up ?_ _ | refine Ext.alloc ?_ _ | refine Ext.drew ?_ | refine Ext.setRow ?_ (by first | (dsimp only; omega) | exact LeS.le | exact LeS.add _ | (simp; done) | (simp; omega)) _ | refine Ext.setCell ?_ (by first | (dsimp only; omega) | exact LeS.le | exact LeS.add _ | (simp; done) | (simp; omega)) _))), R4.out, by rw [mixV_zero]; exact R5.out⟩
    case round =>
      obtain ⟨k, rfl, hk, ⟨z, rfl⟩, r6, r7⟩ := hrel
      by_cases hlt : k < 32
      · have Hx := Lib.hid (lastV_get s l hlt)
        have Hv := Lib.hid (valsOf_get H1.out hlt)
        have hl : (lastV s l).length = (valsOf s).length := by rw [lastV_length, valsOf_length]
        obtain ⟨y, hy⟩ := getElem?_some_of_lt (l := mixV (lastV s l) (valsOf s) k) (k := k) (by rw [mixV_length hl (by rw [valsOf_length]; omega), valsOf_length]; exact hlt)
        have Hl := Lib.hid hl
        have d0 := r7.cell hy
        have f0 := r7.frozen k
        have hL := r7.lts
        have R6 := Lib.hid r6; have R7 := Lib.hid r7
        clear r6 r7 hy hl
        go_wp2_with (first | (refine wpList_load_row rfl _ _ rfl _ rfl _ _ _ _ R6.out.eq Try.underlying107 rfl (by rw [vA_size, valsOf_length]; exact Try.sVals) ?_) | (go_at_call 89; refine (read_any _ _ l _ _ _ _ Hv.out (by omega) (by omega) (H.out.up (by repeat (first | exact Ext.refl _ | refine Ext.up ?_ _ | refine Ext.alloc ?_ _ | refine Ext.drew ?_ | refine Ext.setRow ?_ (by first | (dsimp only; omega) | exact LeS.le | exact LeS.add _ | (simp; done) | (simp; omega)) _ | refine Ext.setCell ?_ (by first | (dsimp only; omega) | exact LeS.le | exact LeS.add _ | (simp; done) | (simp; omega)) _)))).mono ?_; rintro e w' ⟨rfl, z6, rfl⟩))
        go_roundw
        case rel => exact ⟨k + 1, by go_num, by omega, (.of (by repeat (first | exact Ext.refl _ | refine Ext.up ?_ _ | refine Ext.alloc ?_ _ | refine Ext.drew ?_ | refine Ext.setRow ?_ (by first | (dsimp only; omega) | exact LeS.le | exact LeS.add _ | (simp; done) | (simp; omega)) _ | refine Ext.setCell ?_ (by first | (dsimp only; omega) | exact LeS.le | exact LeS.add _ | (simp; done) | (simp; omega)) _))), (R6.out.up ((Ext.refl _).up z6)).other _ Hne.out, by rw [← mixV_next Hl.out Hx.out]; exact (R7.out.up ((Ext.refl _).up z6)).set _ _⟩
        case measure => simp [intOf]; omega
      · obtain rfl : k = 32 := by omega
        have hl : (lastV s l).length = (valsOf s).length := by rw [lastV_length, valsOf_length]
        have e := mixV_all hl
        rw [valsOf_length] at e
        rw [e] at r7
        have R7 := Lib.hid r7
        clear r6 r7 hl e
        go_wp2_with (first | (refine wpList_load_row rfl _ _ rfl _ rfl _ _ _ _ R7.out.eq Try.underlying107 rfl (by rw [vA_size, lastV_length]; exact Try.sVals) ?_) | (go_at_call 95; refine (store_any _ _ (lastV_length s l)).mono ?_; rintro e w' ⟨v', rfl, ⟨z6, rfl⟩, ho⟩; have HO := Lib.hid ho; clear ho))
        go_ret
        exact ⟨_, rfl, (.of (by repeat (first | exact Ext.refl _ | refine Ext.up ?_ _ | refine Ext.alloc ?_ _ | refine Ext.drew ?_ | refine Ext.setRow ?_ (by first | (dsimp only; omega) | exact LeS.le | exact LeS.add _ | (simp; done) | (simp; omega)) _ | refine Ext.setCell ?_ (by first | (dsimp only; omega) | exact LeS.le | exact LeS.add _ | (simp; done) | (simp; omega)) _))), HO.out.lo LeS.le⟩
  all_goals
    rw [lastR_no (by simp [*])]
    go_enter Try.func58, Try.ntmps58
    go_wp2_with (first | (go_at_call 88; refine (iStoreValid_any s _ _ (Hs.out.up (by repeat (first | exact Ext.refl _ | refine Ext.up ?_ _ | refine Ext.alloc ?_ _ | refine Ext.drew ?_ | refine Ext.setRow ?_ (by first | (dsimp only; omega) | exact LeS.le | exact LeS.add _ | (simp; done) | (simp; omega)) _ | refine Ext.setCell ?_ (by first | (dsimp only; omega) | exact LeS.le | exact LeS.add _ | (simp; done) | (simp; omega)) _)))).mono ?_; rintro e w' ⟨rfl, z1, rfl⟩) | (go_at_call 26; refine (iVersionsValid_any l _ _ (H.out.up (by repeat (first | exact Ext.refl _ | refine Ext.up ?_ _ | refine Ext.alloc ?_ _ | refine Ext.drew ?_ | refine Ext.setRow ?_ (by first | (dsimp only; omega) | exact LeS.le | exact LeS.add _ | (simp; done) | (simp; omega)) _ | refine Ext.setCell ?_ (by first | (dsimp only; omega) | exact LeS.le | exact LeS.add _ | (simp; done) | (simp; omega)) _)))).mono ?_; rintro e w' ⟨rfl, z2, rfl⟩))
    go_ret
    exact ⟨_, rfl, (.of (by repeat (first | exact Ext.refl _ | refine Ext.up ?_ _ | refine Ext.alloc ?_ _ | refine Ext.drew ?_ | refine Ext.setRow ?_ (by first | (dsimp only; omega) | exact LeS.le | exact LeS.add _ | (simp; done) | (simp; omega)) _ | refine Ext.setCell ?_ (by first | (dsimp only; omega) | exact LeS.le | exact LeS.add _ | (simp; done) | (simp; omega)) _))), Own.nil _ _ _ _ _⟩
set_option maxHeartbeats 4000000 in
theorem FnExactLastVersions_any (s : List Ent) (v_s : Value) (l : List Ver) (v_l : Value) (w : World) (h_s : SL (RF Ent.enc) 2 w v_s s) (h_l : SL (RF Ver.enc) 3 w v_l l) :
    Calls Try.prog 14 #[v_s, v_l] w fun e w' => e = .returned (.bool true) ∧ Up w w' := by
  have H_s := Lib.hid h_s; clear h_s
  have H_l := Lib.hid h_l; clear h_l
  by_cases hz1 : szOf 1048576 s.length < 0
  · go_enter Try.func14, Try.ntmps14
    go_wp2_with fail
    refine (szEntryS_any s _ 1048576 _ H_s.out (by omega) (by omega)).mono ?_; rintro e w' ⟨rfl, rfl⟩
    go_wp2_with fail
    go_ret
    exact ⟨rfl, (.of (by repeat (first | exact Ext.refl _ | refine Ext.up ?_ _ | refine Ext.alloc ?_ _ | refine Ext.drew ?_ | refine Ext.setRow ?_ (by first | (dsimp only; omega) | exact LeS.le | exact LeS.add _ | (simp; done) | (simp; omega)) _ | refine Ext.setCell ?_ (by first | (dsimp only; omega) | exact LeS.le | exact LeS.add _ | (simp; done) | (simp; omega)) _)))⟩
  have hn_s := szOf_le hz1
  have hq1 := szOf_eq hz1
  generalize hg1 : szOf 1048576 s.length = c1 at hz1 hq1
  have Hg1 := Lib.hid hg1; clear hg1
  have hc1 : 0 ≤ c1 ∧ c1 ≤ 1048576 := by omega
  obtain ⟨hc1a, hc1b⟩ := hc1
  have hm_s : s.length ≤ 1048576 := by omega
  clear hn_s hq1
  by_cases hz2 : szOf c1 l.length < 0
  · go_enter Try.func14, Try.ntmps14
    go_wp2_with fail
    refine (szEntryS_any s _ 1048576 _ H_s.out (by omega) (by omega)).mono ?_; rintro e w' ⟨rfl, rfl⟩
    rw [Hg1.out]
    go_wp2_with fail
    refine (szVersionS_any l _ c1 _ H_l.out (by omega) (by omega)).mono ?_; rintro e w' ⟨rfl, rfl⟩
    go_wp2_with fail
    go_ret
    exact ⟨rfl, (.of (by repeat (first | exact Ext.refl _ | refine Ext.up ?_ _ | refine Ext.alloc ?_ _ | refine Ext.drew ?_ | refine Ext.setRow ?_ (by first | (dsimp only; omega) | exact LeS.le | exact LeS.add _ | (simp; done) | (simp; omega)) _ | refine Ext.setCell ?_ (by first | (dsimp only; omega) | exact LeS.le | exact LeS.add _ | (simp; done) | (simp; omega)) _)))⟩
  have hn_l := szOf_le hz2
  have hq2 := szOf_eq hz2
  generalize hg2 : szOf c1 l.length = c2 at hz2 hq2
  have Hg2 := Lib.hid hg2; clear hg2
  have hc2 : 0 ≤ c2 ∧ c2 ≤ 1048576 := by omega
  obtain ⟨hc2a, hc2b⟩ := hc2
  have hm_l : l.length ≤ 1048576 := by omega
  clear hn_l hq2
  have hd0 := lastR_le s l
  generalize hD0 : lastR s l = D0 at hd0
  have HD0 := Lib.hid hD0; clear hD0
  go_enter Try.func14, Try.ntmps14
  go_wp2_with fail
  refine (szEntryS_any s _ 1048576 _ H_s.out (by omega) (by omega)).mono ?_; rintro e w' ⟨rfl, rfl⟩
  rw [Hg1.out]
  go_wp2_with fail
  refine (szVersionS_any l _ c1 _ H_l.out (by omega) (by omega)).mono ?_; rintro e w' ⟨rfl, rfl⟩
  rw [Hg2.out]
  go_wp2_with fail
  refine (toEntryS_any s _ _ (H_s.out.up (by repeat (first | exact Ext.refl _ | refine Ext.up ?_ _ | refine Ext.alloc ?_ _ | refine Ext.drew ?_ | refine Ext.setRow ?_ (by first | (dsimp only; omega) | exact LeS.le | exact LeS.add _ | (simp; done) | (simp; omega)) _ | refine Ext.setCell ?_ (by first | (dsimp only; omega) | exact LeS.le | exact LeS.add _ | (simp; done) | (simp; omega)) _))) hm_s).mono ?_; rintro e w' ⟨y1, rfl, ⟨z1, rfl⟩, o1⟩
  have O1 := Lib.hid o1; clear o1
  go_wp2_with fail
  refine (toVersionS_any l _ _ (H_l.out.up (by repeat (first | exact Ext.refl _ | refine Ext.up ?_ _ | refine Ext.alloc ?_ _ | refine Ext.drew ?_ | refine Ext.setRow ?_ (by first | (dsimp only; omega) | exact LeS.le | exact LeS.add _ | (simp; done) | (simp; omega)) _ | refine Ext.setCell ?_ (by first | (dsimp only; omega) | exact LeS.le | exact LeS.add _ | (simp; done) | (simp; omega)) _))) hm_l).mono ?_; rintro e w' ⟨y2, rfl, ⟨z2, rfl⟩, o2⟩
  have O2 := Lib.hid o2; clear o2
  go_wp2_with fail
  refine (sLastVersions_any s l _ _  _ ((O1.out.up (by repeat (first | exact Ext.refl _ | refine Ext.up ?_ _ | refine Ext.alloc ?_ _ | refine Ext.drew ?_ | refine Ext.setRow ?_ (by first | (dsimp only; omega) | exact LeS.le | exact LeS.add _ | (simp; done) | (simp; omega)) _ | refine Ext.setCell ?_ (by first | (dsimp only; omega) | exact LeS.le | exact LeS.add _ | (simp; done) | (simp; omega)) _))).sl Ent.enc_length) ((O2.out.up (by repeat (first | exact Ext.refl _ | refine Ext.up ?_ _ | refine Ext.alloc ?_ _ | refine Ext.drew ?_ | refine Ext.setRow ?_ (by first | (dsimp only; omega) | exact LeS.le | exact LeS.add _ | (simp; done) | (simp; omega)) _ | refine Ext.setCell ?_ (by first | (dsimp only; omega) | exact LeS.le | exact LeS.add _ | (simp; done) | (simp; omega)) _))).sl Ver.enc_length)).mono ?_; rintro e w' ⟨y3, rfl, ⟨z3, rfl⟩, o3⟩
  (try rw [HD0.out] at o3)
  have O3 := Lib.hid o3; clear o3
  go_wp2_with fail
  refine (toEntryS_any s _ _ (H_s.out.up (by repeat (first | exact Ext.refl _ | refine Ext.up ?_ _ | refine Ext.alloc ?_ _ | refine Ext.drew ?_ | refine Ext.setRow ?_ (by first | (dsimp only; omega) | exact LeS.le | exact LeS.add _ | (simp; done) | (simp; omega)) _ | refine Ext.setCell ?_ (by first | (dsimp only; omega) | exact LeS.le | exact LeS.add _ | (simp; done) | (simp; omega)) _))) hm_s).mono ?_; rintro e w' ⟨y4, rfl, ⟨z4, rfl⟩, o4⟩
  have O4 := Lib.hid o4; clear o4
  go_wp2_with fail
  refine (toVersionS_any l _ _ (H_l.out.up (by repeat (first | exact Ext.refl _ | refine Ext.up ?_ _ | refine Ext.alloc ?_ _ | refine Ext.drew ?_ | refine Ext.setRow ?_ (by first | (dsimp only; omega) | exact LeS.le | exact LeS.add _ | (simp; done) | (simp; omega)) _ | refine Ext.setCell ?_ (by first | (dsimp only; omega) | exact LeS.le | exact LeS.add _ | (simp; done) | (simp; omega)) _))) hm_l).mono ?_; rintro e w' ⟨y5, rfl, ⟨z5, rfl⟩, o5⟩
  have O5 := Lib.hid o5; clear o5
  go_wp2_with fail
  refine (iLastVersions_any s l _ _  _ ((O4.out.up (by repeat (first | exact Ext.refl _ | refine Ext.up ?_ _ | refine Ext.alloc ?_ _ | refine Ext.drew ?_ | refine Ext.setRow ?_ (by first | (dsimp only; omega) | exact LeS.le | exact LeS.add _ | (simp; done) | (simp; omega)) _ | refine Ext.setCell ?_ (by first | (dsimp only; omega) | exact LeS.le | exact LeS.add _ | (simp; done) | (simp; omega)) _))).sl Ent.enc_length) ((O5.out.up (by repeat (first | exact Ext.refl _ | refine Ext.up ?_ _ | refine Ext.alloc ?_ _ | refine Ext.drew ?_ | refine Ext.setRow ?_ (by first | (dsimp only; omega) | exact LeS.le | exact LeS.add _ | (simp; done) | (simp; omega)) _ | refine Ext.setCell ?_ (by first | (dsimp only; omega) | exact LeS.le | exact LeS.add _ | (simp; done) | (simp; omega)) _))).sl Ver.enc_length)).mono ?_; rintro e w' ⟨y6, rfl, ⟨z6, rfl⟩, o6⟩
  (try rw [HD0.out] at o6)
  have O6 := Lib.hid o6; clear o6
  go_wp2_with fail
  refine (eqEntryS_same D0 _ _ _ ((O6.out.up (by repeat (first | exact Ext.refl _ | refine Ext.up ?_ _ | refine Ext.alloc ?_ _ | refine Ext.drew ?_ | refine Ext.setRow ?_ (by first | (dsimp only; omega) | exact LeS.le | exact LeS.add _ | (simp; done) | (simp; omega)) _ | refine Ext.setCell ?_ (by first | (dsimp only; omega) | exact LeS.le | exact LeS.add _ | (simp; done) | (simp; omega)) _))).sl Ent.enc_length) ((O3.out.up (by repeat (first | exact Ext.refl _ | refine Ext.up ?_ _ | refine Ext.alloc ?_ _ | refine Ext.drew ?_ | refine Ext.setRow ?_ (by first | (dsimp only; omega) | exact LeS.le | exact LeS.add _ | (simp; done) | (simp; omega)) _ | refine Ext.setCell ?_ (by first | (dsimp only; omega) | exact LeS.le | exact LeS.add _ | (simp; done) | (simp; omega)) _))).sl Ent.enc_length)).mono ?_; rintro e w' ⟨rfl, ⟨z7, rfl⟩⟩
  go_wp2_with fail
  refine (toEntryS_any s _ _ (H_s.out.up (by repeat (first | exact Ext.refl _ | refine Ext.up ?_ _ | refine Ext.alloc ?_ _ | refine Ext.drew ?_ | refine Ext.setRow ?_ (by first | (dsimp only; omega) | exact LeS.le | exact LeS.add _ | (simp; done) | (simp; omega)) _ | refine Ext.setCell ?_ (by first | (dsimp only; omega) | exact LeS.le | exact LeS.add _ | (simp; done) | (simp; omega)) _))) hm_s).mono ?_; rintro e w' ⟨y8, rfl, ⟨z8, rfl⟩, o8⟩
  have O8 := Lib.hid o8; clear o8
  go_wp2_with fail
  refine (eqEntryS_same s _ _ _ ((O4.out.up (by repeat (first | exact Ext.refl _ | refine Ext.up ?_ _ | refine Ext.alloc ?_ _ | refine Ext.drew ?_ | refine Ext.setRow ?_ (by first | (dsimp only; omega) | exact LeS.le | exact LeS.add _ | (simp; done) | (simp; omega)) _ | refine Ext.setCell ?_ (by first | (dsimp only; omega) | exact LeS.le | exact LeS.add _ | (simp; done) | (simp; omega)) _))).sl Ent.enc_length) ((O8.out.up (by repeat (first | exact Ext.refl _ | refine Ext.up ?_ _ | refine Ext.alloc ?_ _ | refine Ext.drew ?_ | refine Ext.setRow ?_ (by first | (dsimp only; omega) | exact LeS.le | exact LeS.add _ | (simp; done) | (simp; omega)) _ | refine Ext.setCell ?_ (by first | (dsimp only; omega) | exact LeS.le | exact LeS.add _ | (simp; done) | (simp; omega)) _))).sl Ent.enc_length)).mono ?_; rintro e w' ⟨rfl, ⟨z9, rfl⟩⟩
  go_wp2_with fail
  refine (toVersionS_any l _ _ (H_l.out.up (by repeat (first | exact Ext.refl _ | refine Ext.up ?_ _ | refine Ext.alloc ?_ _ | refine Ext.drew ?_ | refine Ext.setRow ?_ (by first | (dsimp only; omega) | exact LeS.le | exact LeS.add _ | (simp; done) | (simp; omega)) _ | refine Ext.setCell ?_ (by first | (dsimp only; omega) | exact LeS.le | exact LeS.add _ | (simp; done) | (simp; omega)) _))) hm_l).mono ?_; rintro e w' ⟨y10, rfl, ⟨z10, rfl⟩, o10⟩
  have O10 := Lib.hid o10; clear o10
  go_wp2_with fail
  refine (eqVersionS_same l _ _ _ ((O5.out.up (by repeat (first | exact Ext.refl _ | refine Ext.up ?_ _ | refine Ext.alloc ?_ _ | refine Ext.drew ?_ | refine Ext.setRow ?_ (by first | (dsimp only; omega) | exact LeS.le | exact LeS.add _ | (simp; done) | (simp; omega)) _ | refine Ext.setCell ?_ (by first | (dsimp only; omega) | exact LeS.le | exact LeS.add _ | (simp; done) | (simp; omega)) _))).sl Ver.enc_length) ((O10.out.up (by repeat (first | exact Ext.refl _ | refine Ext.up ?_ _ | refine Ext.alloc ?_ _ | refine Ext.drew ?_ | refine Ext.setRow ?_ (by first | (dsimp only; omega) | exact LeS.le | exact LeS.add _ | (simp; done) | (simp; omega)) _ | refine Ext.setCell ?_ (by first | (dsimp only; omega) | exact LeS.le | exact LeS.add _ | (simp; done) | (simp; omega)) _))).sl Ver.enc_length)).mono ?_; rintro e w' ⟨rfl, ⟨z11, rfl⟩⟩
  go_wp2_with fail
  refine (markEntryS_any _ s _ _ _ (O4.out.up (by repeat (first | exact Ext.refl _ | refine Ext.up ?_ _ | refine Ext.alloc ?_ _ | refine Ext.drew ?_ | refine Ext.setRow ?_ (by first | (dsimp only; omega) | exact LeS.le | exact LeS.add _ | (simp; done) | (simp; omega)) _ | refine Ext.setCell ?_ (by first | (dsimp only; omega) | exact LeS.le | exact LeS.add _ | (simp; done) | (simp; omega)) _))) (by omega) (by omega) (by omega)).mono ?_; rintro e w12 ⟨rfl, hg112, om12⟩
  have E12 : Ext w w12 := Own.ext_grown (O4.out.up (by repeat (first | exact Ext.refl _ | refine Ext.up ?_ _ | refine Ext.alloc ?_ _ | refine Ext.drew ?_ | refine Ext.setRow ?_ (by first | (dsimp only; omega) | exact LeS.le | exact LeS.add _ | (simp; done) | (simp; omega)) _ | refine Ext.setCell ?_ (by first | (dsimp only; omega) | exact LeS.le | exact LeS.add _ | (simp; done) | (simp; omega)) _))) (by repeat (first | exact Ext.refl _ | refine Ext.up ?_ _ | refine Ext.alloc ?_ _ | refine Ext.drew ?_ | refine Ext.setRow ?_ (by first | (dsimp only; omega) | exact LeS.le | exact LeS.add _ | (simp; done) | (simp; omega)) _ | refine Ext.setCell ?_ (by first | (dsimp only; omega) | exact LeS.le | exact LeS.add _ | (simp; done) | (simp; omega)) _)) LeS.le hg112
  have O3_12 := Lib.hid (Own.kept (O3.out.up (by repeat (first | exact Ext.refl _ | refine Ext.up ?_ _ | refine Ext.alloc ?_ _ | refine Ext.drew ?_ | refine Ext.setRow ?_ (by first | (dsimp only; omega) | exact LeS.le | exact LeS.add _ | (simp; done) | (simp; omega)) _ | refine Ext.setCell ?_ (by first | (dsimp only; omega) | exact LeS.le | exact LeS.add _ | (simp; done) | (simp; omega)) _))) hg112 ((Own.apart O3.out O4.out LeS.le).symm))
  have O5_12 := Lib.hid (Own.kept (O5.out.up (by repeat (first | exact Ext.refl _ | refine Ext.up ?_ _ | refine Ext.alloc ?_ _ | refine Ext.drew ?_ | refine Ext.setRow ?_ (by first | (dsimp only; omega) | exact LeS.le | exact LeS.add _ | (simp; done) | (simp; omega)) _ | refine Ext.setCell ?_ (by first | (dsimp only; omega) | exact LeS.le | exact LeS.add _ | (simp; done) | (simp; omega)) _))) hg112 (Own.after O5.out O4.out LeS.le))
  have O6_12 := Lib.hid (Own.kept (O6.out.up (by repeat (first | exact Ext.refl _ | refine Ext.up ?_ _ | refine Ext.alloc ?_ _ | refine Ext.drew ?_ | refine Ext.setRow ?_ (by first | (dsimp only; omega) | exact LeS.le | exact LeS.add _ | (simp; done) | (simp; omega)) _ | refine Ext.setCell ?_ (by first | (dsimp only; omega) | exact LeS.le | exact LeS.add _ | (simp; done) | (simp; omega)) _))) hg112 (Own.after O6.out O4.out LeS.le))
  clear hg112
  obtain ⟨z12, rfl⟩ := Up.of E12
  go_wp2_with fail
  refine (markVersionS_any _ l _ _ _ (O5_12.out.up (by repeat (first | exact Ext.refl _ | refine Ext.up ?_ _ | refine Ext.alloc ?_ _ | refine Ext.drew ?_ | refine Ext.setRow ?_ (by first | (dsimp only; omega) | exact LeS.le | exact LeS.add _ | (simp; done) | (simp; omega)) _ | refine Ext.setCell ?_ (by first | (dsimp only; omega) | exact LeS.le | exact LeS.add _ | (simp; done) | (simp; omega)) _))) (by omega) (by omega) (by omega)).mono ?_; rintro e w13 ⟨rfl, hg113, om13⟩
  have E13 : Ext w w13 := Own.ext_grown (O5_12.out.up (by repeat (first | exact Ext.refl _ | refine Ext.up ?_ _ | refine Ext.alloc ?_ _ | refine Ext.drew ?_ | refine Ext.setRow ?_ (by first | (dsimp only; omega) | exact LeS.le | exact LeS.add _ | (simp; done) | (simp; omega)) _ | refine Ext.setCell ?_ (by first | (dsimp only; omega) | exact LeS.le | exact LeS.add _ | (simp; done) | (simp; omega)) _))) (by repeat (first | exact Ext.refl _ | refine Ext.up ?_ _ | refine Ext.alloc ?_ _ | refine Ext.drew ?_ | refine Ext.setRow ?_ (by first | (dsimp only; omega) | exact LeS.le | exact LeS.add _ | (simp; done) | (simp; omega)) _ | refine Ext.setCell ?_ (by first | (dsimp only; omega) | exact LeS.le | exact LeS.add _ | (simp; done) | (simp; omega)) _)) LeS.le hg113
  have O3_13 := Lib.hid (Own.kept (O3_12.out.up (by repeat (first | exact Ext.refl _ | refine Ext.up ?_ _ | refine Ext.alloc ?_ _ | refine Ext.drew ?_ | refine Ext.setRow ?_ (by first | (dsimp only; omega) | exact LeS.le | exact LeS.add _ | (simp; done) | (simp; omega)) _ | refine Ext.setCell ?_ (by first | (dsimp only; omega) | exact LeS.le | exact LeS.add _ | (simp; done) | (simp; omega)) _))) hg113 ((Own.apart O3.out O5.out LeS.le).symm))
  have O6_13 := Lib.hid (Own.kept (O6_12.out.up (by repeat (first | exact Ext.refl _ | refine Ext.up ?_ _ | refine Ext.alloc ?_ _ | refine Ext.drew ?_ | refine Ext.setRow ?_ (by first | (dsimp only; omega) | exact LeS.le | exact LeS.add _ | (simp; done) | (simp; omega)) _ | refine Ext.setCell ?_ (by first | (dsimp only; omega) | exact LeS.le | exact LeS.add _ | (simp; done) | (simp; omega)) _))) hg113 (Own.after O6.out O5.out LeS.le))
  clear hg113
  obtain ⟨z13, rfl⟩ := Up.of E13
  go_wp2_with fail
  refine (eqEntryS_same D0 _ _ _ ((O6_13.out.up (by repeat (first | exact Ext.refl _ | refine Ext.up ?_ _ | refine Ext.alloc ?_ _ | refine Ext.drew ?_ | refine Ext.setRow ?_ (by first | (dsimp only; omega) | exact LeS.le | exact LeS.add _ | (simp; done) | (simp; omega)) _ | refine Ext.setCell ?_ (by first | (dsimp only; omega) | exact LeS.le | exact LeS.add _ | (simp; done) | (simp; omega)) _))).sl Ent.enc_length) ((O3_13.out.up (by repeat (first | exact Ext.refl _ | refine Ext.up ?_ _ | refine Ext.alloc ?_ _ | refine Ext.drew ?_ | refine Ext.setRow ?_ (by first | (dsimp only; omega) | exact LeS.le | exact LeS.add _ | (simp; done) | (simp; omega)) _ | refine Ext.setCell ?_ (by first | (dsimp only; omega) | exact LeS.le | exact LeS.add _ | (simp; done) | (simp; omega)) _))).sl Ent.enc_length)).mono ?_; rintro e w' ⟨rfl, ⟨z14, rfl⟩⟩
  go_wp2_with fail
  refine (markEntryS_any _ D0 _ _ _ (O6_13.out.up (by repeat (first | exact Ext.refl _ | refine Ext.up ?_ _ | refine Ext.alloc ?_ _ | refine Ext.drew ?_ | refine Ext.setRow ?_ (by first | (dsimp only; omega) | exact LeS.le | exact LeS.add _ | (simp; done) | (simp; omega)) _ | refine Ext.setCell ?_ (by first | (dsimp only; omega) | exact LeS.le | exact LeS.add _ | (simp; done) | (simp; omega)) _))) (by omega) (by omega) (by omega)).mono ?_; rintro e w15 ⟨rfl, hg115, om15⟩
  have E15 : Ext w w15 := Own.ext_grown (O6_13.out.up (by repeat (first | exact Ext.refl _ | refine Ext.up ?_ _ | refine Ext.alloc ?_ _ | refine Ext.drew ?_ | refine Ext.setRow ?_ (by first | (dsimp only; omega) | exact LeS.le | exact LeS.add _ | (simp; done) | (simp; omega)) _ | refine Ext.setCell ?_ (by first | (dsimp only; omega) | exact LeS.le | exact LeS.add _ | (simp; done) | (simp; omega)) _))) (by repeat (first | exact Ext.refl _ | refine Ext.up ?_ _ | refine Ext.alloc ?_ _ | refine Ext.drew ?_ | refine Ext.setRow ?_ (by first | (dsimp only; omega) | exact LeS.le | exact LeS.add _ | (simp; done) | (simp; omega)) _ | refine Ext.setCell ?_ (by first | (dsimp only; omega) | exact LeS.le | exact LeS.add _ | (simp; done) | (simp; omega)) _)) LeS.le hg115
  have O3_15 := Lib.hid (Own.kept (O3_13.out.up (by repeat (first | exact Ext.refl _ | refine Ext.up ?_ _ | refine Ext.alloc ?_ _ | refine Ext.drew ?_ | refine Ext.setRow ?_ (by first | (dsimp only; omega) | exact LeS.le | exact LeS.add _ | (simp; done) | (simp; omega)) _ | refine Ext.setCell ?_ (by first | (dsimp only; omega) | exact LeS.le | exact LeS.add _ | (simp; done) | (simp; omega)) _))) hg115 ((Own.apart O3.out O6.out LeS.le).symm))
  have OM15 := Lib.hid om15; clear om15
  clear hg115
  obtain ⟨z15, rfl⟩ := Up.of E15
  go_wp2_with fail
  refine (heldEntryS_marks D0.length _ _ _ ((OM15.out.up (by repeat (first | exact Ext.refl _ | refine Ext.up ?_ _ | refine Ext.alloc ?_ _ | refine Ext.drew ?_ | refine Ext.setRow ?_ (by first | (dsimp only; omega) | exact LeS.le | exact LeS.add _ | (simp; done) | (simp; omega)) _ | refine Ext.setCell ?_ (by first | (dsimp only; omega) | exact LeS.le | exact LeS.add _ | (simp; done) | (simp; omega)) _))).sl Ent.enc_length) (by omega) (by omega) (by omega)).mono ?_; rintro e w' ⟨rfl, rfl⟩
  go_wp2_with fail
  refine (toEntryS_any s _ _ (H_s.out.up (by repeat (first | exact Ext.refl _ | refine Ext.up ?_ _ | refine Ext.alloc ?_ _ | refine Ext.drew ?_ | refine Ext.setRow ?_ (by first | (dsimp only; omega) | exact LeS.le | exact LeS.add _ | (simp; done) | (simp; omega)) _ | refine Ext.setCell ?_ (by first | (dsimp only; omega) | exact LeS.le | exact LeS.add _ | (simp; done) | (simp; omega)) _))) hm_s).mono ?_; rintro e w' ⟨y16, rfl, ⟨z16, rfl⟩, o16⟩
  have O16 := Lib.hid o16; clear o16
  go_wp2_with fail
  refine (toVersionS_any l _ _ (H_l.out.up (by repeat (first | exact Ext.refl _ | refine Ext.up ?_ _ | refine Ext.alloc ?_ _ | refine Ext.drew ?_ | refine Ext.setRow ?_ (by first | (dsimp only; omega) | exact LeS.le | exact LeS.add _ | (simp; done) | (simp; omega)) _ | refine Ext.setCell ?_ (by first | (dsimp only; omega) | exact LeS.le | exact LeS.add _ | (simp; done) | (simp; omega)) _))) hm_l).mono ?_; rintro e w' ⟨y17, rfl, ⟨z17, rfl⟩, o17⟩
  have O17 := Lib.hid o17; clear o17
  go_wp2_with fail
  refine (iLastVersions_any s l _ _  _ ((O16.out.up (by repeat (first | exact Ext.refl _ | refine Ext.up ?_ _ | refine Ext.alloc ?_ _ | refine Ext.drew ?_ | refine Ext.setRow ?_ (by first | (dsimp only; omega) | exact LeS.le | exact LeS.add _ | (simp; done) | (simp; omega)) _ | refine Ext.setCell ?_ (by first | (dsimp only; omega) | exact LeS.le | exact LeS.add _ | (simp; done) | (simp; omega)) _))).sl Ent.enc_length) ((O17.out.up (by repeat (first | exact Ext.refl _ | refine Ext.up ?_ _ | refine Ext.alloc ?_ _ | refine Ext.drew ?_ | refine Ext.setRow ?_ (by first | (dsimp only; omega) | exact LeS.le | exact LeS.add _ | (simp; done) | (simp; omega)) _ | refine Ext.setCell ?_ (by first | (dsimp only; omega) | exact LeS.le | exact LeS.add _ | (simp; done) | (simp; omega)) _))).sl Ver.enc_length)).mono ?_; rintro e w' ⟨y18, rfl, ⟨z18, rfl⟩, o18⟩
  (try rw [HD0.out] at o18)
  have O18 := Lib.hid o18; clear o18
  go_wp2_with fail
  refine (eqEntryS_same D0 _ _ _ ((O18.out.up (by repeat (first | exact Ext.refl _ | refine Ext.up ?_ _ | refine Ext.alloc ?_ _ | refine Ext.drew ?_ | refine Ext.setRow ?_ (by first | (dsimp only; omega) | exact LeS.le | exact LeS.add _ | (simp; done) | (simp; omega)) _ | refine Ext.setCell ?_ (by first | (dsimp only; omega) | exact LeS.le | exact LeS.add _ | (simp; done) | (simp; omega)) _))).sl Ent.enc_length) ((O3_15.out.up (by repeat (first | exact Ext.refl _ | refine Ext.up ?_ _ | refine Ext.alloc ?_ _ | refine Ext.drew ?_ | refine Ext.setRow ?_ (by first | (dsimp only; omega) | exact LeS.le | exact LeS.add _ | (simp; done) | (simp; omega)) _ | refine Ext.setCell ?_ (by first | (dsimp only; omega) | exact LeS.le | exact LeS.add _ | (simp; done) | (simp; omega)) _))).sl Ent.enc_length)).mono ?_; rintro e w' ⟨rfl, ⟨z19, rfl⟩⟩
  go_wp2_with fail
  refine (heldEntryS_marks D0.length _ _ _ ((OM15.out.up (by repeat (first | exact Ext.refl _ | refine Ext.up ?_ _ | refine Ext.alloc ?_ _ | refine Ext.drew ?_ | refine Ext.setRow ?_ (by first | (dsimp only; omega) | exact LeS.le | exact LeS.add _ | (simp; done) | (simp; omega)) _ | refine Ext.setCell ?_ (by first | (dsimp only; omega) | exact LeS.le | exact LeS.add _ | (simp; done) | (simp; omega)) _))).sl Ent.enc_length) (by omega) (by omega) (by omega)).mono ?_; rintro e w' ⟨rfl, rfl⟩
  go_wp2_with fail
  go_ret
  exact ⟨rfl, (.of (by repeat (first | exact Ext.refl _ | refine Ext.up ?_ _ | refine Ext.alloc ?_ _ | refine Ext.drew ?_ | refine Ext.setRow ?_ (by first | (dsimp only; omega) | exact LeS.le | exact LeS.add _ | (simp; done) | (simp; omega)) _ | refine Ext.setCell ?_ (by first | (dsimp only; omega) | exact LeS.le | exact LeS.add _ | (simp; done) | (simp; omega)) _)))⟩
end Go.Proofs.Ytjmjmdncpeeemaa
