/- Walks: FnExactReadVersion: which value an action reads. -/
import Derived.Test.YtjmjmdncpeeemaaVal2
namespace Go.Proofs.Ytjmjmdncpeeemaa
open Go Go.RowKit Go.Proofs

def rdOk (s : List Ent) (l : List Ver) (key by_ : Int) : Bool := entsOk 1 s && (versOk l && (inR key 0 31 && inR by_ 0 10))
def rdV (s : List Ent) (l : List Ver) (key by_ : Int) : Int × Int := if rdOk s l key by_ = true then readV (atK s key) l key by_ else (-1, -1)
theorem rdV_no {s : List Ent} {l : List Ver} {key by_ : Int} (h : rdOk s l key by_ = false) : rdV s l key by_ = (-1, -1) := by unfold rdV; rw [h]; rfl
theorem rdV_yes {s : List Ent} {l : List Ver} {key by_ : Int} (h : rdOk s l key by_ = true) : rdV s l key by_ = readV (atK s key) l key by_ := by unfold rdV; rw [h]; rfl
set_option maxHeartbeats 1000000 in
theorem sReadVersion_any (s : List Ent) (l : List Ver) (u v : Value) (key by_ : Int) (w : World) (hs : SL (RF Ent.enc) 2 w u s) (h : SL (RF Ver.enc) 3 w v l) :
    Calls Try.prog 44 #[u, v, .int .i64 key, .int .i64 by_] w fun e w' => e = .returned (.tuple #[.int .i64 (rdV s l key by_).1, .int .i64 (rdV s l key by_).2]) ∧ Up w w' := by
  have Hs := Lib.hid hs; have H := Lib.hid h
  clear h hs
  rcases guards4 (entsOk 1 s) (versOk l) (inR key 0 31) (inR by_ 0 10) with h1 | ⟨h1, h2⟩ | ⟨h1, h2, h3⟩ | ⟨h1, h2, h3, h4⟩ | ⟨h1, h2, h3, h4⟩
  case inr.inr.inr.inr =>
    rw [rdV_yes (by simp [rdOk, *])]
    go_enter Try.func44, Try.ntmps44
    go_wp2_with (first | (go_at_call 61; refine (l1In_any _ _ _ _).mono ?_; rintro e w' ⟨rfl, rfl⟩) | (go_at_call 85; refine (sStoreValid_any s _ _ Hs.out).mono ?_; rintro e w' ⟨rfl, z1, rfl⟩) | (go_at_call 24; refine (sVersionsValid_any l _ _ (H.out.up (by repeat (first | exact Ext.refl _ | refine Ext.up ?_ _ | refine Ext.alloc ?_ _ | refine Ext.drew ?_ | refine Ext.setRow ?_ (by first | (dsimp only; omega) | exact LeS.le | exact LeS.add _ | (simp; done) | (simp; omega)) _ | refine Ext.setCell ?_ (by first | (dsimp only; omega) | exact LeS.le | exact LeS.add _ | (simp; done) | (simp; omega)) _)))).mono ?_; rintro e w' ⟨rfl, z2, rfl⟩) | (go_at_call 86; refine (l9Read_any s l _ _ _ _ _ (Hs.out.up (by repeat (first | exact Ext.refl _ | refine Ext.up ?_ _ | refine Ext.alloc ?_ _ | refine Ext.drew ?_ | refine Ext.setRow ?_ (by first | (dsimp only; omega) | exact LeS.le | exact LeS.add _ | (simp; done) | (simp; omega)) _ | refine Ext.setCell ?_ (by first | (dsimp only; omega) | exact LeS.le | exact LeS.add _ | (simp; done) | (simp; omega)) _))) (H.out.up (by repeat (first | exact Ext.refl _ | refine Ext.up ?_ _ | refine Ext.alloc ?_ _ | refine Ext.drew ?_ | refine Ext.setRow ?_ (by first | (dsimp only; omega) | exact LeS.le | exact LeS.add _ | (simp; done) | (simp; omega)) _ | refine Ext.setCell ?_ (by first | (dsimp only; omega) | exact LeS.le | exact LeS.add _ | (simp; done) | (simp; omega)) _)))).mono ?_; rintro e w' ⟨rfl, rfl⟩))
    go_ret2
    exact ⟨rfl, (.of (by repeat (first | exact Ext.refl _ | refine Ext.up ?_ _ | refine Ext.alloc ?_ _ | refine Ext.drew ?_ | refine Ext.setRow ?_ (by first | (dsimp only; omega) | exact LeS.le | exact LeS.add _ | (simp; done) | (simp; omega)) _ | refine Ext.setCell ?_ (by first | (dsimp only; omega) | exact LeS.le | exact LeS.add _ | (simp; done) | (simp; omega)) _)))⟩
  all_goals
    rw [rdV_no (by simp [rdOk, *])]
    go_enter Try.func44, Try.ntmps44
    go_wp2_with (first | (go_at_call 61; refine (l1In_any _ _ _ _).mono ?_; rintro e w' ⟨rfl, rfl⟩) | (go_at_call 85; refine (sStoreValid_any s _ _ Hs.out).mono ?_; rintro e w' ⟨rfl, z1, rfl⟩) | (go_at_call 24; refine (sVersionsValid_any l _ _ (H.out.up (by repeat (first | exact Ext.refl _ | refine Ext.up ?_ _ | refine Ext.alloc ?_ _ | refine Ext.drew ?_ | refine Ext.setRow ?_ (by first | (dsimp only; omega) | exact LeS.le | exact LeS.add _ | (simp; done) | (simp; omega)) _ | refine Ext.setCell ?_ (by first | (dsimp only; omega) | exact LeS.le | exact LeS.add _ | (simp; done) | (simp; omega)) _)))).mono ?_; rintro e w' ⟨rfl, z2, rfl⟩))
    go_ret2
    exact ⟨rfl, (.of (by repeat (first | exact Ext.refl _ | refine Ext.up ?_ _ | refine Ext.alloc ?_ _ | refine Ext.drew ?_ | refine Ext.setRow ?_ (by first | (dsimp only; omega) | exact LeS.le | exact LeS.add _ | (simp; done) | (simp; omega)) _ | refine Ext.setCell ?_ (by first | (dsimp only; omega) | exact LeS.le | exact LeS.add _ | (simp; done) | (simp; omega)) _)))⟩
set_option maxHeartbeats 1000000 in
theorem iReadVersion_any (s : List Ent) (l : List Ver) (u v : Value) (key by_ : Int) (w : World) (hs : SL (RF Ent.enc) 2 w u s) (h : SL (RF Ver.enc) 3 w v l) :
    Calls Try.prog 46 #[u, v, .int .i64 key, .int .i64 by_] w fun e w' => e = .returned (.tuple #[.int .i64 (rdV s l key by_).1, .int .i64 (rdV s l key by_).2]) ∧ Up w w' := by
  have Hs := Lib.hid hs; have H := Lib.hid h
  clear h hs
  rcases guards4 (entsOk 1 s) (versOk l) (inR key 0 31) (inR by_ 0 10) with h1 | ⟨h1, h2⟩ | ⟨h1, h2, h3⟩ | ⟨h1, h2, h3, h4⟩ | ⟨h1, h2, h3, h4⟩
  case inr.inr.inr.inr =>
    rw [rdV_yes (by simp [rdOk, *])]
    obtain ⟨k0, k1⟩ := inR_iff.1 h3
    have hg : (valsOf s)[key.toNat]? = some (atK s key) := by have := valsOf_get h1 (n := key.toNat) (by omega); rwa [show ((key.toNat : Nat) : Int) = key from by omega] at this
    have Hg := Lib.hid hg; clear hg
    have H1 := Lib.hid h1
    go_enter Try.func46, Try.ntmps46
    go_wp2_with (first | (go_at_call 68; refine (isKey_any _ _).mono ?_; rintro e w' ⟨rfl, rfl⟩) | (go_at_call 69; refine (in_any _ _ _ _).mono ?_; rintro e w' ⟨rfl, rfl⟩) | (go_at_call 88; refine (iStoreValid_any s _ _ Hs.out).mono ?_; rintro e w' ⟨rfl, z1, rfl⟩) | (go_at_call 26; refine (iVersionsValid_any l _ _ (H.out.up (by repeat (first | exact Ext.refl _ | refine Ext.up ?_ _ | refine Ext.alloc ?_ _ | refine Ext.drew ?_ | refine Ext.setRow ?_ (by first | (dsimp only; omega) | exact LeS.le | exact LeS.add _ | (simp; done) | (simp; omega)) _ | refine Ext.setCell ?_ (by first | (dsimp only; omega) | exact LeS.le | exact LeS.add _ | (simp; done) | (simp; omega)) _)))).mono ?_; rintro e w' ⟨rfl, z2, rfl⟩) | (go_at_call 90; refine (valuesOf_any 1 s _ _ (Hs.out.up (by repeat (first | exact Ext.refl _ | refine Ext.up ?_ _ | refine Ext.alloc ?_ _ | refine Ext.drew ?_ | refine Ext.setRow ?_ (by first | (dsimp only; omega) | exact LeS.le | exact LeS.add _ | (simp; done) | (simp; omega)) _ | refine Ext.setCell ?_ (by first | (dsimp only; omega) | exact LeS.le | exact LeS.add _ | (simp; done) | (simp; omega)) _))) H1.out).mono ?_; rintro e w' ⟨rfl, z3, rfl⟩) | (go_at_call 89; refine (read_any _ _ l _ _ _ _ Hg.out k0 k1 (H.out.up (by repeat (first | exact Ext.refl _ | refine Ext.up ?_ _ | refine Ext.alloc ?_ _ | refine Ext.drew ?_ | refine Ext.setRow ?_ (by first | (dsimp only; omega) | exact LeS.le | exact LeS.add _ | (simp; done) | (simp; omega)) _ | refine Ext.setCell ?_ (by first | (dsimp only; omega) | exact LeS.le | exact LeS.add _ | (simp; done) | (simp; omega)) _)))).mono ?_; rintro e w' ⟨rfl, z4, rfl⟩))
    go_ret2
    exact ⟨rfl, (.of (by repeat (first | exact Ext.refl _ | refine Ext.up ?_ _ | refine Ext.alloc ?_ _ | refine Ext.drew ?_ | refine Ext.setRow ?_ (by first | (dsimp only; omega) | exact LeS.le | exact LeS.add _ | (simp; done) | (simp; omega)) _ | refine Ext.setCell ?_ (by first | (dsimp only; omega) | exact LeS.le | exact LeS.add _ | (simp; done) | (simp; omega)) _)))⟩
  all_goals
    rw [rdV_no (by simp [rdOk, *])]
    go_enter Try.func46, Try.ntmps46
    go_wp2_with (first | (go_at_call 68; refine (isKey_any _ _).mono ?_; rintro e w' ⟨rfl, rfl⟩) | (go_at_call 69; refine (in_any _ _ _ _).mono ?_; rintro e w' ⟨rfl, rfl⟩) | (go_at_call 88; refine (iStoreValid_any s _ _ Hs.out).mono ?_; rintro e w' ⟨rfl, z1, rfl⟩) | (go_at_call 26; refine (iVersionsValid_any l _ _ (H.out.up (by repeat (first | exact Ext.refl _ | refine Ext.up ?_ _ | refine Ext.alloc ?_ _ | refine Ext.drew ?_ | refine Ext.setRow ?_ (by first | (dsimp only; omega) | exact LeS.le | exact LeS.add _ | (simp; done) | (simp; omega)) _ | refine Ext.setCell ?_ (by first | (dsimp only; omega) | exact LeS.le | exact LeS.add _ | (simp; done) | (simp; omega)) _)))).mono ?_; rintro e w' ⟨rfl, z2, rfl⟩))
    go_ret2
    exact ⟨rfl, (.of (by repeat (first | exact Ext.refl _ | refine Ext.up ?_ _ | refine Ext.alloc ?_ _ | refine Ext.drew ?_ | refine Ext.setRow ?_ (by first | (dsimp only; omega) | exact LeS.le | exact LeS.add _ | (simp; done) | (simp; omega)) _ | refine Ext.setCell ?_ (by first | (dsimp only; omega) | exact LeS.le | exact LeS.add _ | (simp; done) | (simp; omega)) _)))⟩
set_option maxHeartbeats 4000000 in
theorem FnExactReadVersion_any (s : List Ent) (v_s : Value) (l : List Ver) (v_l : Value) (key : Int) (by_ : Int) (w : World) (h_s : SL (RF Ent.enc) 2 w v_s s) (h_l : SL (RF Ver.enc) 3 w v_l l) :
    Calls Try.prog 11 #[v_s, v_l, .int .i64 key, .int .i64 by_] w fun e w' => e = .returned (.bool true) ∧ Up w w' := by
  have H_s := Lib.hid h_s; clear h_s
  have H_l := Lib.hid h_l; clear h_l
  by_cases hz1 : szOf 1048576 s.length < 0
  · go_enter Try.func11, Try.ntmps11
    go_wp2_with fail
    refine (szEntryS_any s _ 1048576 _ H_s.out (by omega) (by omega)).mono ?_; rintro e w' ⟨rfl, rfl⟩
    go_wp2_with fail
    go_ret
    exact ⟨rfl, (.of (by repeat (first | exact Ext.refl _ | refine Ext.up ?_ _ | refine Ext.alloc ?_ _ | refine Ext.drew ?_ | refine Ext.setRow ?_ (by first | (dsimp only; omega) | exact LeS.le | exact LeS.add _ | (simp; done) | (simp; omega)) _ | refine Ext.setCell ?_ (by first | (dsimp only; omega) | exact LeS.le | exact LeS.add _ | (simp; done) | (simp; omega)) _)))⟩
  have hn_s := szOf_le hz1
  have hq1 := szOf_eq hz1
  generalize hg1 : szOf 1048576 s.length = c1 at hz1 hq1
  have Hg1 := Lib.hid hg1; clear hg1
  have hc1 : 0 ≤ c1 ∧ c1 ≤ 1048576 := by omega
  obtain ⟨hc1a, hc1b⟩ := hc1
  have hm_s : s.length ≤ 1048576 := by omega
  clear hn_s hq1
  by_cases hz2 : szOf c1 l.length < 0
  · go_enter Try.func11, Try.ntmps11
    go_wp2_with fail
    refine (szEntryS_any s _ 1048576 _ H_s.out (by omega) (by omega)).mono ?_; rintro e w' ⟨rfl, rfl⟩
    rw [Hg1.out]
    go_wp2_with fail
    refine (szVersionS_any l _ c1 _ H_l.out (by omega) (by omega)).mono ?_; rintro e w' ⟨rfl, rfl⟩
    go_wp2_with fail
    go_ret
    exact ⟨rfl, (.of (by repeat (first | exact Ext.refl _ | refine Ext.up ?_ _ | refine Ext.alloc ?_ _ | refine Ext.drew ?_ | refine Ext.setRow ?_ (by first | (dsimp only; omega) | exact LeS.le | exact LeS.add _ | (simp; done) | (simp; omega)) _ | refine Ext.setCell ?_ (by first | (dsimp only; omega) | exact LeS.le | exact LeS.add _ | (simp; done) | (simp; omega)) _)))⟩
  have hn_l := szOf_le hz2
  have hq2 := szOf_eq hz2
  generalize hg2 : szOf c1 l.length = c2 at hz2 hq2
  have Hg2 := Lib.hid hg2; clear hg2
  have hc2 : 0 ≤ c2 ∧ c2 ≤ 1048576 := by omega
  obtain ⟨hc2a, hc2b⟩ := hc2
  have hm_l : l.length ≤ 1048576 := by omega
  clear hn_l hq2
  go_enter Try.func11, Try.ntmps11
  go_wp2_with fail
  refine (szEntryS_any s _ 1048576 _ H_s.out (by omega) (by omega)).mono ?_; rintro e w' ⟨rfl, rfl⟩
  rw [Hg1.out]
  go_wp2_with fail
  refine (szVersionS_any l _ c1 _ H_l.out (by omega) (by omega)).mono ?_; rintro e w' ⟨rfl, rfl⟩
  rw [Hg2.out]
  go_wp2_with fail
  refine (toEntryS_any s _ _ (H_s.out.up (by repeat (first | exact Ext.refl _ | refine Ext.up ?_ _ | refine Ext.alloc ?_ _ | refine Ext.drew ?_ | refine Ext.setRow ?_ (by first | (dsimp only; omega) | exact LeS.le | exact LeS.add _ | (simp; done) | (simp; omega)) _ | refine Ext.setCell ?_ (by first | (dsimp only; omega) | exact LeS.le | exact LeS.add _ | (simp; done) | (simp; omega)) _))) hm_s).mono ?_; rintro e w' ⟨y1, rfl, ⟨z1, rfl⟩, o1⟩
  have O1 := Lib.hid o1; clear o1
  go_wp2_with fail
  refine (toVersionS_any l _ _ (H_l.out.up (by repeat (first | exact Ext.refl _ | refine Ext.up ?_ _ | refine Ext.alloc ?_ _ | refine Ext.drew ?_ | refine Ext.setRow ?_ (by first | (dsimp only; omega) | exact LeS.le | exact LeS.add _ | (simp; done) | (simp; omega)) _ | refine Ext.setCell ?_ (by first | (dsimp only; omega) | exact LeS.le | exact LeS.add _ | (simp; done) | (simp; omega)) _))) hm_l).mono ?_; rintro e w' ⟨y2, rfl, ⟨z2, rfl⟩, o2⟩
  have O2 := Lib.hid o2; clear o2
  go_wp2_with fail
  refine (sReadVersion_any s l _ _ key by_ _ ((O1.out.up (by repeat (first | exact Ext.refl _ | refine Ext.up ?_ _ | refine Ext.alloc ?_ _ | refine Ext.drew ?_ | refine Ext.setRow ?_ (by first | (dsimp only; omega) | exact LeS.le | exact LeS.add _ | (simp; done) | (simp; omega)) _ | refine Ext.setCell ?_ (by first | (dsimp only; omega) | exact LeS.le | exact LeS.add _ | (simp; done) | (simp; omega)) _))).sl Ent.enc_length) ((O2.out.up (by repeat (first | exact Ext.refl _ | refine Ext.up ?_ _ | refine Ext.alloc ?_ _ | refine Ext.drew ?_ | refine Ext.setRow ?_ (by first | (dsimp only; omega) | exact LeS.le | exact LeS.add _ | (simp; done) | (simp; omega)) _ | refine Ext.setCell ?_ (by first | (dsimp only; omega) | exact LeS.le | exact LeS.add _ | (simp; done) | (simp; omega)) _))).sl Ver.enc_length)).mono ?_; rintro e w' ⟨rfl, ⟨z3, rfl⟩⟩
  go_wp2_with fail
  refine (toEntryS_any s _ _ (H_s.out.up (by repeat (first | exact Ext.refl _ | refine Ext.up ?_ _ | refine Ext.alloc ?_ _ | refine Ext.drew ?_ | refine Ext.setRow ?_ (by first | (dsimp only; omega) | exact LeS.le | exact LeS.add _ | (simp; done) | (simp; omega)) _ | refine Ext.setCell ?_ (by first | (dsimp only; omega) | exact LeS.le | exact LeS.add _ | (simp; done) | (simp; omega)) _))) hm_s).mono ?_; rintro e w' ⟨y4, rfl, ⟨z4, rfl⟩, o4⟩
  have O4 := Lib.hid o4; clear o4
  go_wp2_with fail
  refine (toVersionS_any l _ _ (H_l.out.up (by repeat (first | exact Ext.refl _ | refine Ext.up ?_ _ | refine Ext.alloc ?_ _ | refine Ext.drew ?_ | refine Ext.setRow ?_ (by first | (dsimp only; omega) | exact LeS.le | exact LeS.add _ | (simp; done) | (simp; omega)) _ | refine Ext.setCell ?_ (by first | (dsimp only; omega) | exact LeS.le | exact LeS.add _ | (simp; done) | (simp; omega)) _))) hm_l).mono ?_; rintro e w' ⟨y5, rfl, ⟨z5, rfl⟩, o5⟩
  have O5 := Lib.hid o5; clear o5
  go_wp2_with fail
  refine (iReadVersion_any s l _ _ key by_ _ ((O4.out.up (by repeat (first | exact Ext.refl _ | refine Ext.up ?_ _ | refine Ext.alloc ?_ _ | refine Ext.drew ?_ | refine Ext.setRow ?_ (by first | (dsimp only; omega) | exact LeS.le | exact LeS.add _ | (simp; done) | (simp; omega)) _ | refine Ext.setCell ?_ (by first | (dsimp only; omega) | exact LeS.le | exact LeS.add _ | (simp; done) | (simp; omega)) _))).sl Ent.enc_length) ((O5.out.up (by repeat (first | exact Ext.refl _ | refine Ext.up ?_ _ | refine Ext.alloc ?_ _ | refine Ext.drew ?_ | refine Ext.setRow ?_ (by first | (dsimp only; omega) | exact LeS.le | exact LeS.add _ | (simp; done) | (simp; omega)) _ | refine Ext.setCell ?_ (by first | (dsimp only; omega) | exact LeS.le | exact LeS.add _ | (simp; done) | (simp; omega)) _))).sl Ver.enc_length)).mono ?_; rintro e w' ⟨rfl, ⟨z6, rfl⟩⟩
  go_wp2_with fail
  refine (toEntryS_any s _ _ (H_s.out.up (by repeat (first | exact Ext.refl _ | refine Ext.up ?_ _ | refine Ext.alloc ?_ _ | refine Ext.drew ?_ | refine Ext.setRow ?_ (by first | (dsimp only; omega) | exact LeS.le | exact LeS.add _ | (simp; done) | (simp; omega)) _ | refine Ext.setCell ?_ (by first | (dsimp only; omega) | exact LeS.le | exact LeS.add _ | (simp; done) | (simp; omega)) _))) hm_s).mono ?_; rintro e w' ⟨y7, rfl, ⟨z7, rfl⟩, o7⟩
  have O7 := Lib.hid o7; clear o7
  go_wp2_with fail
  refine (eqEntryS_same s _ _ _ ((O4.out.up (by repeat (first | exact Ext.refl _ | refine Ext.up ?_ _ | refine Ext.alloc ?_ _ | refine Ext.drew ?_ | refine Ext.setRow ?_ (by first | (dsimp only; omega) | exact LeS.le | exact LeS.add _ | (simp; done) | (simp; omega)) _ | refine Ext.setCell ?_ (by first | (dsimp only; omega) | exact LeS.le | exact LeS.add _ | (simp; done) | (simp; omega)) _))).sl Ent.enc_length) ((O7.out.up (by repeat (first | exact Ext.refl _ | refine Ext.up ?_ _ | refine Ext.alloc ?_ _ | refine Ext.drew ?_ | refine Ext.setRow ?_ (by first | (dsimp only; omega) | exact LeS.le | exact LeS.add _ | (simp; done) | (simp; omega)) _ | refine Ext.setCell ?_ (by first | (dsimp only; omega) | exact LeS.le | exact LeS.add _ | (simp; done) | (simp; omega)) _))).sl Ent.enc_length)).mono ?_; rintro e w' ⟨rfl, ⟨z8, rfl⟩⟩
  go_wp2_with fail
  refine (toVersionS_any l _ _ (H_l.out.up (by repeat (first | exact Ext.refl _ | refine Ext.up ?_ _ | refine Ext.alloc ?_ _ | refine Ext.drew ?_ | refine Ext.setRow ?_ (by first | (dsimp only; omega) | exact LeS.le | exact LeS.add _ | (simp; done) | (simp; omega)) _ | refine Ext.setCell ?_ (by first | (dsimp only; omega) | exact LeS.le | exact LeS.add _ | (simp; done) | (simp; omega)) _))) hm_l).mono ?_; rintro e w' ⟨y9, rfl, ⟨z9, rfl⟩, o9⟩
  have O9 := Lib.hid o9; clear o9
  go_wp2_with fail
  refine (eqVersionS_same l _ _ _ ((O5.out.up (by repeat (first | exact Ext.refl _ | refine Ext.up ?_ _ | refine Ext.alloc ?_ _ | refine Ext.drew ?_ | refine Ext.setRow ?_ (by first | (dsimp only; omega) | exact LeS.le | exact LeS.add _ | (simp; done) | (simp; omega)) _ | refine Ext.setCell ?_ (by first | (dsimp only; omega) | exact LeS.le | exact LeS.add _ | (simp; done) | (simp; omega)) _))).sl Ver.enc_length) ((O9.out.up (by repeat (first | exact Ext.refl _ | refine Ext.up ?_ _ | refine Ext.alloc ?_ _ | refine Ext.drew ?_ | refine Ext.setRow ?_ (by first | (dsimp only; omega) | exact LeS.le | exact LeS.add _ | (simp; done) | (simp; omega)) _ | refine Ext.setCell ?_ (by first | (dsimp only; omega) | exact LeS.le | exact LeS.add _ | (simp; done) | (simp; omega)) _))).sl Ver.enc_length)).mono ?_; rintro e w' ⟨rfl, ⟨z10, rfl⟩⟩
  go_wp2_with fail
  go_ret
  exact ⟨rfl, (.of (by repeat (first | exact Ext.refl _ | refine Ext.up ?_ _ | refine Ext.alloc ?_ _ | refine Ext.drew ?_ | refine Ext.setRow ?_ (by first | (dsimp only; omega) | exact LeS.le | exact LeS.add _ | (simp; done) | (simp; omega)) _ | refine Ext.setCell ?_ (by first | (dsimp only; omega) | exact LeS.le | exact LeS.add _ | (simp; done) | (simp; omega)) _)))⟩
end Go.Proofs.Ytjmjmdncpeeemaa
