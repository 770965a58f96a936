/- Walks: dropping versions. -/
import Derived.Test.YtjmjmdncpeeemaaVer
import Derived.Test.YtjmjmdncpeeemaaPush
namespace Go.Proofs.Ytjmjmdncpeeemaa
open Go Go.RowKit Go.Proofs

def dropV (l : List Ver) (by_ : Int) : List Ver := l.filter fun x => decide (x.b ≠ by_)
theorem dropV_le (l : List Ver) (b : Int) : (dropV l b).length ≤ l.length := List.length_filter_le _ _
theorem dropV_snoc_in {l : List Ver} {k : Nat} {x : Ver} {b : Int} (h : l[k]? = some x) (hb : x.b ≠ b) : dropV (l.take (k + 1)) b = dropV (l.take k) b ++ [x] := by
  rw [List.take_add_one, h]; simp [dropV, hb]
theorem dropV_snoc_out {l : List Ver} {k : Nat} {x : Ver} {b : Int} (h : l[k]? = some x) (hb : x.b = b) : dropV (l.take (k + 1)) b = dropV (l.take k) b := by
  rw [List.take_add_one, h]; simp [dropV, hb]

set_option maxHeartbeats 1000000 in
theorem without_any (l : List Ver) (v : Value) (by_ : Int) (w : World) (h : SL (RF Ver.enc) 3 w v l) (hn : l.length ≤ 1073741824) :
    Calls Try.prog 79 #[v, .int .i64 by_] w fun e w' => ∃ v', e = .returned v' ∧ Up w w' ∧ Own Ver.enc 89 3 w.heap.size w' v' (dropV l by_) := by
  obtain ⟨a, cap, rfl, hlen, hc⟩ := h.open
  clear h
  go_enter Try.func79, Try.ntmps79
  go_wp2_with fail
  go_loopw [5, 7, 10] (fun s5 _ s10 wr => ∃ (k : Nat), s10 = .int .i64 k ∧ k ≤ l.length ∧ Up w wr ∧ Own Ver.enc 89 3 w.heap.size wr s5 (dropV (l.take k) by_)) (fun _ _ s10 _ => l.length - (intOf s10).toNat)
  case atStart => exact ⟨0, rfl, Nat.zero_le _, .of (Ext.refl _), Own.nil _ _ _ _ _⟩
  case round =>
    obtain ⟨k, rfl, hk, ⟨z, rfl⟩, hown⟩ := hrel
    by_cases hlt : k < l.length
    · obtain ⟨x, hxk⟩ := getElem?_some_of_lt hlt
      obtain ⟨b, off, rfl, hb, hcc⟩ := hc k x hxk
      have c0 : w.cell? ⟨b, off + k * 3, none⟩ = some (.int .i64 x.k) := hcc 0 _ rfl
      have c1 : w.cell? ⟨b, off + k * 3 + 1, none⟩ = some (.int .i64 x.b) := hcc 1 _ rfl
      have c2 : w.cell? ⟨b, off + k * 3 + 2, none⟩ = some (.int .i64 x.v) := hcc 2 _ rfl
      have hle : (dropV (l.take k) by_).length ≤ k := Nat.le_trans (dropV_le _ _) (List.length_take_le _ _)
      have Hx := Lib.hid hxk; have Hown := Lib.hid hown
      clear hc hcc hxk hown
      rcases ne_cases x.b by_ with ⟨h1, h1'⟩ | ⟨h1, h1'⟩
      · go_wp2_with (at_builtin; refine wpList_push1 fVer rfl (.tmp 18) (.tmp 20) rfl Ver.enc w x (dropV (l.take k) by_) rfl (Hown.out.up (by repeat (first | exact Ext.refl _ | refine Ext.up ?_ _ | refine Ext.alloc ?_ _ | refine Ext.drew ?_ | refine Ext.setCell ?_ (by first | (dsimp only; omega) | exact LeS.le | exact LeS.add _ | (simp; done) | (simp; omega)) _))) (by repeat (first | exact Ext.refl _ | refine Ext.up ?_ _ | refine Ext.alloc ?_ _ | refine Ext.drew ?_ | refine Ext.setCell ?_ (by first | (dsimp only; omega) | exact LeS.le | exact LeS.add _ | (simp; done) | (simp; omega)) _)) rfl (by go_simp) rfl rfl (oneV x) (by omega) (by omega) ?_; intro v1 z1 hown1)
        have hown2 := Lib.hid hown1; clear hown1
        go_wp2_with fail
        go_roundw
        case rel => exact ⟨k + 1, by go_num, by omega, (.of (by repeat (first | exact Ext.refl _ | refine Ext.up ?_ _ | refine Ext.alloc ?_ _ | refine Ext.drew ?_ | refine Ext.setCell ?_ (by first | (dsimp only; omega) | exact LeS.le | exact LeS.add _ | (simp; done) | (simp; omega)) _))), by rw [dropV_snoc_in Hx.out h1]; exact hown2.out⟩
        case measure => simp [intOf]; omega
      · have H1 := Lib.hid h1; clear h1
        go_wp2_with fail
        go_roundw
        case rel => exact ⟨k + 1, by go_num, by omega, (.of (by repeat (first | exact Ext.refl _ | refine Ext.up ?_ _ | refine Ext.alloc ?_ _ | refine Ext.drew ?_ | refine Ext.setCell ?_ (by first | (dsimp only; omega) | exact LeS.le | exact LeS.add _ | (simp; done) | (simp; omega)) _))), by rw [dropV_snoc_out Hx.out H1.out]; exact Hown.out.up (by repeat (first | exact Ext.refl _ | refine Ext.up ?_ _ | refine Ext.alloc ?_ _ | refine Ext.drew ?_ | refine Ext.setCell ?_ (by first | (dsimp only; omega) | exact LeS.le | exact LeS.add _ | (simp; done) | (simp; omega)) _))⟩
        case measure => simp [intOf]; omega
    · go_wp2_with fail
      go_ret
      obtain rfl : k = l.length := by omega
      refine ⟨_, rfl, ⟨z, rfl⟩, ?_⟩
      rw [List.take_length] at hown
      exact hown
/-- What is left without those of an action; nothing of versions that are not valid. -/
def dropR (l : List Ver) (b : Int) : List Ver := if versOk l = true then dropV l b else []
theorem dropR_le (l : List Ver) (b : Int) : (dropR l b).length ≤ l.length := by unfold dropR; split; exact dropV_le l b; simp
set_option maxHeartbeats 1000000 in
theorem l9Drop_any (l : List Ver) (v : Value) (by_ : Int) (w : World) (h : SL (RF Ver.enc) 3 w v l) (hn : l.length ≤ 1073741824) :
    Calls Try.prog 78 #[v, .int .i64 by_] w fun e w' => ∃ v', e = .returned v' ∧ Up w w' ∧ Own Ver.enc 89 3 w.heap.size w' v' (dropV l by_) := by
  obtain ⟨a, cap, rfl, hlen, hc⟩ := h.open
  clear h
  go_enter Try.func78, Try.ntmps78
  go_wp2_with fail
  go_loopw [5, 6] (fun s5 s6 wr => ∃ (k : Nat), s6 = .int .i64 k ∧ k ≤ l.length ∧ Up w wr ∧ Own Ver.enc 89 3 w.heap.size wr s5 (dropV (l.take k) by_)) (fun _ s6 _ => l.length - (intOf s6).toNat)
  case atStart => exact ⟨0, rfl, Nat.zero_le _, (.of (by repeat (first | exact Ext.refl _ | refine Ext.up ?_ _ | refine Ext.alloc ?_ _ | refine Ext.drew ?_ | refine Ext.setCell ?_ (by first | (dsimp only; omega) | exact LeS.le | exact LeS.add _ | (simp; done) | (simp; omega)) _))), Own.lit (by simp) (by simp) rfl rfl Ver.enc_length (by simp [dropV])⟩
  case round =>
    obtain ⟨k, rfl, hk, ⟨z, rfl⟩, hown⟩ := hrel
    by_cases hlt : k < l.length
    · obtain ⟨x, hxk⟩ := getElem?_some_of_lt hlt
      obtain ⟨b, off, rfl, hb, hcc⟩ := hc k x hxk
      have c0 : w.cell? ⟨b, off + k * 3, none⟩ = some (.int .i64 x.k) := hcc 0 _ rfl
      have c1 : w.cell? ⟨b, off + k * 3 + 1, none⟩ = some (.int .i64 x.b) := hcc 1 _ rfl
      have c2 : w.cell? ⟨b, off + k * 3 + 2, none⟩ = some (.int .i64 x.v) := hcc 2 _ rfl
      have hle : (dropV (l.take k) by_).length ≤ k := Nat.le_trans (dropV_le _ _) (List.length_take_le _ _)
      have Hx := Lib.hid hxk; have Hown := Lib.hid hown
      clear hc hcc hxk hown
      rcases ne_cases x.b by_ with ⟨h1, h1'⟩ | ⟨h1, h1'⟩
      · go_wp2_with (at_builtin; refine wpList_push1 fVer rfl (.tmp 21) (.tmp 26) rfl Ver.enc w x (dropV (l.take k) by_) rfl (Hown.out.up (by repeat (first | exact Ext.refl _ | refine Ext.up ?_ _ | refine Ext.alloc ?_ _ | refine Ext.drew ?_ | refine Ext.setCell ?_ (by first | (dsimp only; omega) | exact LeS.le | exact LeS.add _ | (simp; done) | (simp; omega)) _))) (by repeat (first | exact Ext.refl _ | refine Ext.up ?_ _ | refine Ext.alloc ?_ _ | refine Ext.drew ?_ | refine Ext.setCell ?_ (by first | (dsimp only; omega) | exact LeS.le | exact LeS.add _ | (simp; done) | (simp; omega)) _)) rfl (by go_simp) rfl rfl (oneV x) (by omega) (by omega) ?_; intro v1 z1 hown1)
        have hown2 := Lib.hid hown1; clear hown1
        go_wp2_with fail
        go_roundw
        case rel => exact ⟨k + 1, by go_num, by omega, (.of (by repeat (first | exact Ext.refl _ | refine Ext.up ?_ _ | refine Ext.alloc ?_ _ | refine Ext.drew ?_ | refine Ext.setCell ?_ (by first | (dsimp only; omega) | exact LeS.le | exact LeS.add _ | (simp; done) | (simp; omega)) _))), by rw [dropV_snoc_in Hx.out h1]; exact hown2.out⟩
        case measure => simp [intOf]; omega
      · have H1 := Lib.hid h1; clear h1
        go_wp2_with fail
        go_roundw
        case rel => exact ⟨k + 1, by go_num, by omega, (.of (by repeat (first | exact Ext.refl _ | refine Ext.up ?_ _ | refine Ext.alloc ?_ _ | refine Ext.drew ?_ | refine Ext.setCell ?_ (by first | (dsimp only; omega) | exact LeS.le | exact LeS.add _ | (simp; done) | (simp; omega)) _))), by rw [dropV_snoc_out Hx.out H1.out]; exact Hown.out.up (by repeat (first | exact Ext.refl _ | refine Ext.up ?_ _ | refine Ext.alloc ?_ _ | refine Ext.drew ?_ | refine Ext.setCell ?_ (by first | (dsimp only; omega) | exact LeS.le | exact LeS.add _ | (simp; done) | (simp; omega)) _))⟩
        case measure => simp [intOf]; omega
    · go_wp2_with fail
      go_ret
      obtain rfl : k = l.length := by omega
      refine ⟨_, rfl, ⟨z, rfl⟩, ?_⟩
      rw [List.take_length] at hown
      exact hown
theorem iDropVersions_any (l : List Ver) (v : Value) (by_ : Int) (w : World) (h : SL (RF Ver.enc) 3 w v l) (hn : l.length ≤ 1073741824) :
    Calls Try.prog 32 #[v, .int .i64 by_] w fun e w' => ∃ v', e = .returned v' ∧ Up w w' ∧ Own Ver.enc 89 3 w.heap.size w' v' (dropR l by_) := by
  have H := Lib.hid h; clear h
  rcases hv : versOk l with _ | _
  · rw [dropR, hv, if_neg (by decide)]
    go_enter Try.func32, Try.ntmps32
    go_wp2_with (go_at_call 26; refine (iVersionsValid_any l _ _ H.out).mono ?_; rintro e w' ⟨rfl, z, rfl⟩)
    go_ret
    exact ⟨_, rfl, (.of (by repeat (first | exact Ext.refl _ | refine Ext.up ?_ _ | refine Ext.alloc ?_ _ | refine Ext.drew ?_ | refine Ext.setCell ?_ (by first | (dsimp only; omega) | exact LeS.le | exact LeS.add _ | (simp; done) | (simp; omega)) _))), Own.nil _ _ _ _ _⟩
  · rw [dropR, hv, if_pos rfl]
    go_enter Try.func32, Try.ntmps32
    go_wp2_with fail
    refine (iVersionsValid_any l _ _ H.out).mono ?_; rintro e w' ⟨rfl, z, rfl⟩
    go_wp2_with fail
    refine (without_any l _ _ _ (H.out.up (by repeat (first | exact Ext.refl _ | refine Ext.up ?_ _ | refine Ext.alloc ?_ _ | refine Ext.drew ?_ | refine Ext.setCell ?_ (by first | (dsimp only; omega) | exact LeS.le | exact LeS.add _ | (simp; done) | (simp; omega)) _))) hn).mono ?_; rintro e w' ⟨v', rfl, ⟨z', rfl⟩, ho⟩
    have HO := Lib.hid ho; clear ho
    go_wp2_with fail
    go_ret
    exact ⟨_, rfl, (.of (by repeat (first | exact Ext.refl _ | refine Ext.up ?_ _ | refine Ext.alloc ?_ _ | refine Ext.drew ?_ | refine Ext.setCell ?_ (by first | (dsimp only; omega) | exact LeS.le | exact LeS.add _ | (simp; done) | (simp; omega)) _))), HO.out.lo z.ext.size⟩
theorem sDropVersions_any (l : List Ver) (v : Value) (by_ : Int) (w : World) (h : SL (RF Ver.enc) 3 w v l) (hn : l.length ≤ 1073741824) :
    Calls Try.prog 31 #[v, .int .i64 by_] w fun e w' => ∃ v', e = .returned v' ∧ Up w w' ∧ Own Ver.enc 89 3 w.heap.size w' v' (dropR l by_) := by
  have H := Lib.hid h; clear h
  rcases hv : versOk l with _ | _
  · rw [dropR, hv, if_neg (by decide)]
    go_enter Try.func31, Try.ntmps31
    go_wp2_with (go_at_call 24; refine (sVersionsValid_any l _ _ H.out).mono ?_; rintro e w' ⟨rfl, z, rfl⟩)
    go_ret
    exact ⟨_, rfl, (.of (by repeat (first | exact Ext.refl _ | refine Ext.up ?_ _ | refine Ext.alloc ?_ _ | refine Ext.drew ?_ | refine Ext.setCell ?_ (by first | (dsimp only; omega) | exact LeS.le | exact LeS.add _ | (simp; done) | (simp; omega)) _))), Own.lit (by simp) LeS.le rfl rfl Ver.enc_length (by simp)⟩
  · rw [dropR, hv, if_pos rfl]
    go_enter Try.func31, Try.ntmps31
    go_wp2_with fail
    refine (sVersionsValid_any l _ _ H.out).mono ?_; rintro e w' ⟨rfl, z, rfl⟩
    go_wp2_with fail
    refine (l9Drop_any l _ _ _ (H.out.up (by repeat (first | exact Ext.refl _ | refine Ext.up ?_ _ | refine Ext.alloc ?_ _ | refine Ext.drew ?_ | refine Ext.setCell ?_ (by first | (dsimp only; omega) | exact LeS.le | exact LeS.add _ | (simp; done) | (simp; omega)) _))) hn).mono ?_; rintro e w' ⟨v', rfl, ⟨z', rfl⟩, ho⟩
    have HO := Lib.hid ho; clear ho
    go_wp2_with fail
    go_ret
    exact ⟨_, rfl, (.of (by repeat (first | exact Ext.refl _ | refine Ext.up ?_ _ | refine Ext.alloc ?_ _ | refine Ext.drew ?_ | refine Ext.setCell ?_ (by first | (dsimp only; omega) | exact LeS.le | exact LeS.add _ | (simp; done) | (simp; omega)) _))), HO.out.lo z.ext.size⟩
set_option maxHeartbeats 4000000 in
theorem FnExactDropVersions_any (l : List Ver) (v : Value) (by_ : Int) (w : World) (h : SL (RF Ver.enc) 3 w v l) :
    Calls Try.prog 8 #[v, .int .i64 by_] w fun e w' => e = .returned (.bool true) ∧ Up w w' := by
  by_cases hz : szOf 1048576 l.length < 0
  · have Hz := Lib.hid h; clear h
    go_enter Try.func8, Try.ntmps8
    go_wp2_with (go_at_call 23; refine (szVersionS_any l _ _ _ Hz.out (by omega) (by omega)).mono ?_; rintro e w' ⟨rfl, rfl⟩)
    go_ret
    exact ⟨rfl, (.of (by repeat (first | exact Ext.refl _ | refine Ext.up ?_ _ | refine Ext.alloc ?_ _ | refine Ext.drew ?_ | refine Ext.setCell ?_ (by first | (dsimp only; omega) | exact LeS.le | exact LeS.add _ | (simp; done) | (simp; omega)) _)))⟩
  have hn := szOf_le hz
  have hn' : l.length ≤ 1048576 := by omega
  have hd := dropR_le l by_
  generalize hD : dropR l by_ = D at hd
  have HD := Lib.hid hD; clear hD
  have Hh := Lib.hid h; clear h hn
  go_enter Try.func8, Try.ntmps8
  go_wp2_with fail
  refine (szVersionS_any l _ _ _ Hh.out (by omega) (by omega)).mono ?_; rintro e w' ⟨rfl, rfl⟩
  go_wp2_with fail
  refine (toVersionS_any l _ _ Hh.out hn').mono ?_; rintro e w' ⟨v1, rfl, ⟨zA, rfl⟩, o1⟩
  have O1 := Lib.hid o1; clear o1
  go_wp2_with fail
  refine (sDropVersions_any l _ _ _ (O1.out.sl Ver.enc_length) (by omega)).mono ?_; rintro e w' ⟨vw, rfl, ⟨zB, rfl⟩, ow⟩
  rw [HD.out] at ow
  have OW := Lib.hid ow; clear ow
  go_wp2_with fail
  refine (toVersionS_any l _ _ (Hh.out.up (by repeat (first | exact Ext.refl _ | refine Ext.up ?_ _ | refine Ext.alloc ?_ _ | refine Ext.drew ?_ | refine Ext.setCell ?_ (by first | (dsimp only; omega) | exact LeS.le | exact LeS.add _ | (simp; done) | (simp; omega)) _))) hn').mono ?_; rintro e w' ⟨vx, rfl, ⟨zC, rfl⟩, ox⟩
  have OX := Lib.hid ox; clear ox
  go_wp2_with fail
  refine (iDropVersions_any l _ _ _ (OX.out.sl Ver.enc_length) (by omega)).mono ?_; rintro e w' ⟨vg, rfl, ⟨zD, rfl⟩, og⟩
  rw [HD.out] at og
  have OG := Lib.hid og; clear og
  go_wp2_with fail
  refine (eqVersionS_same D _ _ _ (OG.out.sl Ver.enc_length) ((OW.out.up (by repeat (first | exact Ext.refl _ | refine Ext.up ?_ _ | refine Ext.alloc ?_ _ | refine Ext.drew ?_ | refine Ext.setCell ?_ (by first | (dsimp only; omega) | exact LeS.le | exact LeS.add _ | (simp; done) | (simp; omega)) _))).sl Ver.enc_length)).mono ?_; rintro e w' ⟨rfl, ⟨zE, rfl⟩⟩
  go_wp2_with fail
  refine (toVersionS_any l _ _ (Hh.out.up (by repeat (first | exact Ext.refl _ | refine Ext.up ?_ _ | refine Ext.alloc ?_ _ | refine Ext.drew ?_ | refine Ext.setCell ?_ (by first | (dsimp only; omega) | exact LeS.le | exact LeS.add _ | (simp; done) | (simp; omega)) _))) hn').mono ?_; rintro e w' ⟨v3, rfl, ⟨zF, rfl⟩, o3⟩
  have O3 := Lib.hid o3; clear o3
  go_wp2_with fail
  refine (eqVersionS_same l _ _ _ ((OX.out.up (by repeat (first | exact Ext.refl _ | refine Ext.up ?_ _ | refine Ext.alloc ?_ _ | refine Ext.drew ?_ | refine Ext.setCell ?_ (by first | (dsimp only; omega) | exact LeS.le | exact LeS.add _ | (simp; done) | (simp; omega)) _))).sl Ver.enc_length) (O3.out.sl Ver.enc_length)).mono ?_; rintro e w' ⟨rfl, ⟨zG, rfl⟩⟩
  go_wp2_with fail
  refine (markVersionS_any zB.val.heap.size l _ _ _ (OX.out.up (by repeat (first | exact Ext.refl _ | refine Ext.up ?_ _ | refine Ext.alloc ?_ _ | refine Ext.drew ?_ | refine Ext.setCell ?_ (by first | (dsimp only; omega) | exact LeS.le | exact LeS.add _ | (simp; done) | (simp; omega)) _))) (by omega) (by omega) (by omega)).mono ?_; rintro e w1 ⟨rfl, hg1, _⟩
  have E1 : Ext w w1 := Own.ext_grown (OX.out.up (by repeat (first | exact Ext.refl _ | refine Ext.up ?_ _ | refine Ext.alloc ?_ _ | refine Ext.drew ?_ | refine Ext.setCell ?_ (by first | (dsimp only; omega) | exact LeS.le | exact LeS.add _ | (simp; done) | (simp; omega)) _))) (by repeat (first | exact Ext.refl _ | refine Ext.up ?_ _ | refine Ext.alloc ?_ _ | refine Ext.drew ?_ | refine Ext.setCell ?_ (by first | (dsimp only; omega) | exact LeS.le | exact LeS.add _ | (simp; done) | (simp; omega)) _)) (Nat.le_trans zA.ext.size zB.ext.size) hg1
  have OG1 := Lib.hid (Own.kept (OG.out.up (by repeat (first | exact Ext.refl _ | refine Ext.up ?_ _ | refine Ext.alloc ?_ _ | refine Ext.drew ?_ | refine Ext.setCell ?_ (by first | (dsimp only; omega) | exact LeS.le | exact LeS.add _ | (simp; done) | (simp; omega)) _))) hg1 (Own.after OG.out OX.out (Nat.le_refl _)))
  have OW1 := Lib.hid (Own.kept (OW.out.up (by repeat (first | exact Ext.refl _ | refine Ext.up ?_ _ | refine Ext.alloc ?_ _ | refine Ext.drew ?_ | refine Ext.setCell ?_ (by first | (dsimp only; omega) | exact LeS.le | exact LeS.add _ | (simp; done) | (simp; omega)) _))) hg1 ((Own.apart OW.out OX.out (Nat.le_refl _)).symm))
  have G1 := Lib.hid hg1; clear hg1
  obtain ⟨z1, rfl⟩ := Up.of E1
  go_wp2_with fail
  refine (eqVersionS_same D _ _ _ (OG1.out.sl Ver.enc_length) (OW1.out.sl Ver.enc_length)).mono ?_; rintro e w' ⟨rfl, ⟨zH, rfl⟩⟩
  go_wp2_with fail
  refine (markVersionS_any zC.val.heap.size D _ _ _ (OG1.out.up (by repeat (first | exact Ext.refl _ | refine Ext.up ?_ _ | refine Ext.alloc ?_ _ | refine Ext.drew ?_ | refine Ext.setCell ?_ (by first | (dsimp only; omega) | exact LeS.le | exact LeS.add _ | (simp; done) | (simp; omega)) _))) (by omega) (by omega) (by omega)).mono ?_; rintro e w2 ⟨rfl, hg2, om⟩
  have E2 : Ext w w2 := Own.ext_grown (OG1.out.up (by repeat (first | exact Ext.refl _ | refine Ext.up ?_ _ | refine Ext.alloc ?_ _ | refine Ext.drew ?_ | refine Ext.setCell ?_ (by first | (dsimp only; omega) | exact LeS.le | exact LeS.add _ | (simp; done) | (simp; omega)) _))) (by repeat (first | exact Ext.refl _ | refine Ext.up ?_ _ | refine Ext.alloc ?_ _ | refine Ext.drew ?_ | refine Ext.setCell ?_ (by first | (dsimp only; omega) | exact LeS.le | exact LeS.add _ | (simp; done) | (simp; omega)) _)) (Nat.le_trans zA.ext.size (Nat.le_trans zB.ext.size zC.ext.size)) hg2
  have OW2 := Lib.hid (Own.kept (OW1.out.up (by repeat (first | exact Ext.refl _ | refine Ext.up ?_ _ | refine Ext.alloc ?_ _ | refine Ext.drew ?_ | refine Ext.setCell ?_ (by first | (dsimp only; omega) | exact LeS.le | exact LeS.add _ | (simp; done) | (simp; omega)) _))) hg2 ((Own.apart OW.out OG.out zC.ext.size).symm))
  have OM := Lib.hid om; clear om
  clear hg2
  obtain ⟨z2, rfl⟩ := Up.of E2
  go_wp2_with fail
  refine (heldVersionS_marks D.length _ _ _ (OM.out.sl Ver.enc_length) (by omega) (by omega) (by omega)).mono ?_; rintro e w' ⟨rfl, rfl⟩
  go_wp2_with fail
  refine (toVersionS_any l _ _ (Hh.out.up (by repeat (first | exact Ext.refl _ | refine Ext.up ?_ _ | refine Ext.alloc ?_ _ | refine Ext.drew ?_ | refine Ext.setCell ?_ (by first | (dsimp only; omega) | exact LeS.le | exact LeS.add _ | (simp; done) | (simp; omega)) _))) hn').mono ?_; rintro e w' ⟨v4, rfl, ⟨zI, rfl⟩, o4⟩
  have O4 := Lib.hid o4; clear o4
  go_wp2_with fail
  refine (iDropVersions_any l _ _ _ (O4.out.sl Ver.enc_length) (by omega)).mono ?_; rintro e w' ⟨vh, rfl, ⟨zJ, rfl⟩, oh⟩
  rw [HD.out] at oh
  have OH := Lib.hid oh; clear oh
  go_wp2_with fail
  refine (eqVersionS_same D _ _ _ (OH.out.sl Ver.enc_length) ((OW2.out.up (by repeat (first | exact Ext.refl _ | refine Ext.up ?_ _ | refine Ext.alloc ?_ _ | refine Ext.drew ?_ | refine Ext.setCell ?_ (by first | (dsimp only; omega) | exact LeS.le | exact LeS.add _ | (simp; done) | (simp; omega)) _))).sl Ver.enc_length)).mono ?_; rintro e w' ⟨rfl, ⟨zK, rfl⟩⟩
  go_wp2_with fail
  refine (heldVersionS_marks D.length _ _ _ ((OM.out.up (by repeat (first | exact Ext.refl _ | refine Ext.up ?_ _ | refine Ext.alloc ?_ _ | refine Ext.drew ?_ | refine Ext.setCell ?_ (by first | (dsimp only; omega) | exact LeS.le | exact LeS.add _ | (simp; done) | (simp; omega)) _))).sl Ver.enc_length) (by omega) (by omega) (by omega)).mono ?_; rintro e w' ⟨rfl, rfl⟩
  go_wp2_with fail
  go_ret
  exact ⟨rfl, (.of (by repeat (first | exact Ext.refl _ | refine Ext.up ?_ _ | refine Ext.alloc ?_ _ | refine Ext.drew ?_ | refine Ext.setCell ?_ (by first | (dsimp only; omega) | exact LeS.le | exact LeS.add _ | (simp; done) | (simp; omega)) _)))⟩
end Go.Proofs.Ytjmjmdncpeeemaa
