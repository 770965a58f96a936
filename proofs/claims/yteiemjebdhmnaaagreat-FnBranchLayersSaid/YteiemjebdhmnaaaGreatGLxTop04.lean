/- Walks: FnExactBlockSum: sums of blocks. Plain laws: the root of a store. Plain laws: a store with another value; values back to a store; effects. -/
import Derived.Test.YteiemjebdhmnaaaGreatGLxTop02
import Derived.Test.YteiemjebdhmnaaaGreatGLxTop03
import Derived.StillTailTactics
import Derived.Test.YteiemjebdhmnaaaGreatGLxTop01
set_option linter.unusedSimpArgs false
set_option linter.unusedVariables false
namespace Go.Proofs.YteiemjebdhmnaaaGreat
open Go Go.RowKit Go.Proofs

def Blk.head (b : Blk) (n : Nat) : List Int := [b.bf, b.ht, b.vw, (n : Int)]
def Blk.nums (b : Blk) (l : List Actn) : List Int := (b.head l.length ++ aNums l) ++ [b.rt, b.ef]
theorem Blk.nums_summed {b : Blk} {l : List Actn} (h : b.okL l = true) : summed (b.nums l) = true := by
  simp only [Blk.okL, Bool.and_eq_true, inR_iff] at h
  obtain ⟨h1, h2, h3, h4, h5, h6⟩ := h
  have hl := actsOk_len h6
  refine summed_append (summed_append (summed_iff.2 ?_) (aNums_summed fun x hx => ?_)) (summed_iff.2 ?_)
  · intro n hn; simp [Blk.head] at hn; omega
  · obtain ⟨i, hi⟩ := List.getElem?_of_mem hx; exact actsOk_at h6 hi
  · intro n hn; simp at hn; omega
def bsum (b : Blk) (l : List Actn) : Int := if b.okL l = true then sumL 22 (b.nums l) else -1
theorem bsum_no {b : Blk} {l : List Actn} (h : b.okL l = false) : bsum b l = -1 := by unfold bsum; rw [h]; rfl
theorem bsum_yes {b : Blk} {l : List Actn} (h : b.okL l = true) : bsum b l = sumL 22 (b.nums l) := by unfold bsum; rw [h]; rfl
theorem Blk.okL_acts {b : Blk} {l : List Actn} (h : b.okL l = true) : actsOk l = true := by
  simp only [Blk.okL, Bool.and_eq_true] at h; exact h.2.2.2.2.2
set_option maxRecDepth 100000 in
set_option maxHeartbeats 2000000 in
theorem iBlockSum_any (b : Blk) (l : List Actn) (v : Value) (w : World) (h : SL (RF Actn.enc) 4 w v l) :
    Calls Tryz.prog 71 #[.agg #[.int .i64 b.bf, .int .i64 b.ht, .int .i64 b.vw, v, .int .i64 b.rt, .int .i64 b.ef]] w fun e w' => e = .returned (.int .i64 (bsum b l)) ∧ Up w w' := by
  have hs := h
  obtain ⟨p, cap, rfl, hlen, hc⟩ := h.open
  have Hs := Lib.hid hs; clear h hs
  rcases hok : b.okL l with _ | _
  · rw [bsum_no hok]
    have kz := fun w h => iBlockValid_any b l (.slice p l.length cap) w h
    rw [hok] at kz
    go_enter Tryz.func71, Tryz.ntmps71
    go_wp2_with (go_at_call 103; refine (kz _ (Hs.out.up (by repeat (first | exact Ext.refl _ | refine Ext.up ?_ _ | refine Ext.alloc ?_ _ | refine Ext.drew ?_ | refine Ext.setRow ?_ (by first | (dsimp only; omega) | exact LeS.le | exact LeS.add _ | (simp; done) | (simp; omega)) _ | refine Ext.setCell ?_ (by first | (dsimp only; omega) | exact LeS.le | exact LeS.add _ | (simp; done) | (simp; omega)) _)))).mono ?_; rintro e w' ⟨rfl, z0, rfl⟩)
    go_ret
    exact ⟨rfl, (.of (by repeat (first | exact Ext.refl _ | refine Ext.up ?_ _ | refine Ext.alloc ?_ _ | refine Ext.drew ?_ | refine Ext.setRow ?_ (by first | (dsimp only; omega) | exact LeS.le | exact LeS.add _ | (simp; done) | (simp; omega)) _ | refine Ext.setCell ?_ (by first | (dsimp only; omega) | exact LeS.le | exact LeS.add _ | (simp; done) | (simp; omega)) _)))⟩
  have hl10 := actsOk_len (Blk.okL_acts hok)
  have Hsum := Lib.hid (Blk.nums_summed hok)
  have Hfin := Lib.hid ((bsum_yes hok).trans (sumOf_yes (tag := 5) (by decide) (by decide) (Blk.nums_summed hok)).symm)
  have kz := fun w h => iBlockValid_any b l (.slice p l.length cap) w h
  rw [hok] at kz
  have Hok := Lib.hid hok; clear hok
  go_enter Tryz.func71, Tryz.ntmps71
  go_wp2_with (go_at_call 103; refine (kz _ (Hs.out.up (by repeat (first | exact Ext.refl _ | refine Ext.up ?_ _ | refine Ext.alloc ?_ _ | refine Ext.drew ?_ | refine Ext.setRow ?_ (by first | (dsimp only; omega) | exact LeS.le | exact LeS.add _ | (simp; done) | (simp; omega)) _ | refine Ext.setCell ?_ (by first | (dsimp only; omega) | exact LeS.le | exact LeS.add _ | (simp; done) | (simp; omega)) _)))).mono ?_; rintro e w' ⟨rfl, z0, rfl⟩)
  go_loopw [3, 5, 22] (fun s3 _ s22 wr => ∃ k : Nat, s22 = .int .i64 k ∧ k ≤ l.length ∧ Up (w.alloc (.cells #[.int .i64 b.bf, .int .i64 b.ht, .int .i64 b.vw, .slice p l.length cap, .int .i64 b.rt, .int .i64 b.ef] 54)) wr ∧ Own encI 3 1 (w.alloc (.cells #[.int .i64 b.bf, .int .i64 b.ht, .int .i64 b.vw, .slice p l.length cap, .int .i64 b.rt, .int .i64 b.ef] 54)).heap.size wr s3 (b.head l.length ++ aNums (l.take k))) (fun _ _ s22 _ => l.length - (intOf s22).toNat)
  case atStart => exact ⟨0, rfl, Nat.zero_le _, (.of (by repeat (first | exact Ext.refl _ | refine Ext.up ?_ _ | refine Ext.alloc ?_ _ | refine Ext.drew ?_ | refine Ext.setRow ?_ (by first | (dsimp only; omega) | exact LeS.le | exact LeS.add _ | (simp; done) | (simp; omega)) _ | refine Ext.setCell ?_ (by first | (dsimp only; omega) | exact LeS.le | exact LeS.add _ | (simp; done) | (simp; omega)) _))), Own.lit rfl LeS.le (by simp [Blk.head, aNums]) (by simp [Blk.head, aNums, encI]) encI_length (by simp [Blk.head, aNums])⟩
  case round =>
    obtain ⟨k, rfl, hk, ⟨z, rfl⟩, hown⟩ := hrel
    by_cases hlt : k < l.length
    · obtain ⟨x, hxk⟩ := getElem?_some_of_lt hlt
      obtain ⟨g, off, hp, hb, _⟩ := hc k x hxk
      obtain ⟨c0, c1, c2, c3⟩ := acell hc hp hxk
      subst hp
      have Hx := Lib.hid (aNums_snoc hxk); have Hown := Lib.hid hown
      have hle : (b.head l.length ++ aNums (l.take k)).length ≤ 4 + 4 * k := by rw [List.length_append, aNums_length, List.length_take]; simp [Blk.head]; omega
      have Hle := Lib.hid hle
      clear hc hxk hown hle
      go_wp2_with (at_builtin; refine wpList_pushL fI rfl (.tmp 26) (.tmp 35) rfl encI encI_length _ [x.kind, x.src, x.dst, x.amt] (b.head l.length ++ aNums (l.take k)) rfl (Hown.out.up (by repeat (first | exact Ext.refl _ | refine Ext.up ?_ _ | refine Ext.alloc ?_ _ | refine Ext.drew ?_ | refine Ext.setRow ?_ (by first | (dsimp only; omega) | exact LeS.le | exact LeS.add _ | (simp; done) | (simp; omega)) _ | refine Ext.setCell ?_ (by first | (dsimp only; omega) | exact LeS.le | exact LeS.add _ | (simp; done) | (simp; omega)) _))) (by repeat (first | exact Ext.refl _ | refine Ext.up ?_ _ | refine Ext.alloc ?_ _ | refine Ext.drew ?_ | refine Ext.setRow ?_ (by first | (dsimp only; omega) | exact LeS.le | exact LeS.add _ | (simp; done) | (simp; omega)) _ | refine Ext.setCell ?_ (by first | (dsimp only; omega) | exact LeS.le | exact LeS.add _ | (simp; done) | (simp; omega)) _)) rfl rfl (by go_simp) rfl (oneIs _) (by have := Hle.out; simp at this ⊢; omega) (by have := Hle.out; simp at this ⊢; omega) ?_; intro v1 z1 hown1)
      have hown2 := Lib.hid hown1; clear hown1
      go_wp2_with fail
      go_roundw
      case rel => exact ⟨k + 1, by go_num, by omega, (.of (by repeat (first | exact Ext.refl _ | refine Ext.up ?_ _ | refine Ext.alloc ?_ _ | refine Ext.drew ?_ | refine Ext.setRow ?_ (by first | (dsimp only; omega) | exact LeS.le | exact LeS.add _ | (simp; done) | (simp; omega)) _ | refine Ext.setCell ?_ (by first | (dsimp only; omega) | exact LeS.le | exact LeS.add _ | (simp; done) | (simp; omega)) _))), by rw [Hx.out, ← List.append_assoc]; exact hown2.out⟩
      case measure => simp [intOf]; omega
    · obtain rfl : k = l.length := by omega
      rw [List.take_length] at hown
      have Hown := Lib.hid hown
      have hle : (b.head l.length ++ aNums l).length ≤ 4 + 4 * 10 := by rw [List.length_append, aNums_length]; simp [Blk.head]; omega
      have Hle := Lib.hid hle
      clear hc hown hle
      go_wp2_with (at_builtin; refine wpList_pushL fI rfl (.tmp 38) (.tmp 43) rfl encI encI_length _ [b.rt, b.ef] (b.head l.length ++ aNums l) rfl (Hown.out.up (by repeat (first | exact Ext.refl _ | refine Ext.up ?_ _ | refine Ext.alloc ?_ _ | refine Ext.drew ?_ | refine Ext.setRow ?_ (by first | (dsimp only; omega) | exact LeS.le | exact LeS.add _ | (simp; done) | (simp; omega)) _ | refine Ext.setCell ?_ (by first | (dsimp only; omega) | exact LeS.le | exact LeS.add _ | (simp; done) | (simp; omega)) _))) (by repeat (first | exact Ext.refl _ | refine Ext.up ?_ _ | refine Ext.alloc ?_ _ | refine Ext.drew ?_ | refine Ext.setRow ?_ (by first | (dsimp only; omega) | exact LeS.le | exact LeS.add _ | (simp; done) | (simp; omega)) _ | refine Ext.setCell ?_ (by first | (dsimp only; omega) | exact LeS.le | exact LeS.add _ | (simp; done) | (simp; omega)) _)) rfl rfl (by go_simp) rfl (oneIs _) (by have := Hle.out; simp at this ⊢; omega) (by have := Hle.out; simp at this ⊢; omega) ?_; intro v1 z1 hown1)
      have hown2 := Lib.hid hown1; clear hown1
      go_wp2_with (go_at_call 37; refine (sumOf_any 5 (b.nums l) _ _ (hown2.out.sl encI_length)).mono ?_; rintro e w' ⟨rfl, z2, rfl⟩)
      go_ret
      exact ⟨by rw [Hfin.out]; rfl, (.of (by repeat (first | exact Ext.refl _ | refine Ext.up ?_ _ | refine Ext.alloc ?_ _ | refine Ext.drew ?_ | refine Ext.setRow ?_ (by first | (dsimp only; omega) | exact LeS.le | exact LeS.add _ | (simp; done) | (simp; omega)) _ | refine Ext.setCell ?_ (by first | (dsimp only; omega) | exact LeS.le | exact LeS.add _ | (simp; done) | (simp; omega)) _)))⟩
set_option maxRecDepth 100000 in
set_option maxHeartbeats 2000000 in
theorem sBlockSum_any (b : Blk) (l : List Actn) (v : Value) (w : World) (h : SL (RF Actn.enc) 4 w v l) :
    Calls Tryz.prog 34 #[.agg #[.int .i64 b.bf, .int .i64 b.ht, .int .i64 b.vw, v, .int .i64 b.rt, .int .i64 b.ef]] w fun e w' => e = .returned (.int .i64 (bsum b l)) ∧ Up w w' := by
  have hs := h
  obtain ⟨p, cap, rfl, hlen, hc⟩ := h.open
  have Hs := Lib.hid hs; clear h hs
  rcases hok : b.okL l with _ | _
  · rw [bsum_no hok]
    have kz := fun w h => sBlockValid_any b l (.slice p l.length cap) w h
    rw [hok] at kz
    go_enter Tryz.func34, Tryz.ntmps34
    go_wp2_with (go_at_call 32; refine (kz _ (Hs.out.up (by repeat (first | exact Ext.refl _ | refine Ext.up ?_ _ | refine Ext.alloc ?_ _ | refine Ext.drew ?_ | refine Ext.setRow ?_ (by first | (dsimp only; omega) | exact LeS.le | exact LeS.add _ | (simp; done) | (simp; omega)) _ | refine Ext.setCell ?_ (by first | (dsimp only; omega) | exact LeS.le | exact LeS.add _ | (simp; done) | (simp; omega)) _)))).mono ?_; rintro e w' ⟨rfl, z0, rfl⟩)
    go_ret
    exact ⟨rfl, (.of (by repeat (first | exact Ext.refl _ | refine Ext.up ?_ _ | refine Ext.alloc ?_ _ | refine Ext.drew ?_ | refine Ext.setRow ?_ (by first | (dsimp only; omega) | exact LeS.le | exact LeS.add _ | (simp; done) | (simp; omega)) _ | refine Ext.setCell ?_ (by first | (dsimp only; omega) | exact LeS.le | exact LeS.add _ | (simp; done) | (simp; omega)) _)))⟩
  have hl10 := actsOk_len (Blk.okL_acts hok)
  have Hsum := Lib.hid (Blk.nums_summed hok)
  have Hfin := Lib.hid (bsum_yes hok)
  have kz := fun w h => sBlockValid_any b l (.slice p l.length cap) w h
  rw [hok] at kz
  have Hok := Lib.hid hok; clear hok
  go_enter Tryz.func34, Tryz.ntmps34
  go_wp2_with (go_at_call 32; refine (kz _ (Hs.out.up (by repeat (first | exact Ext.refl _ | refine Ext.up ?_ _ | refine Ext.alloc ?_ _ | refine Ext.drew ?_ | refine Ext.setRow ?_ (by first | (dsimp only; omega) | exact LeS.le | exact LeS.add _ | (simp; done) | (simp; omega)) _ | refine Ext.setCell ?_ (by first | (dsimp only; omega) | exact LeS.le | exact LeS.add _ | (simp; done) | (simp; omega)) _)))).mono ?_; rintro e w' ⟨rfl, z0, rfl⟩)
  go_loopw [3, 4] (fun s3 s4 wr => ∃ k : Nat, s4 = .int .i64 k ∧ k ≤ l.length ∧ Up (w.alloc (.cells #[.int .i64 b.bf, .int .i64 b.ht, .int .i64 b.vw, .slice p l.length cap, .int .i64 b.rt, .int .i64 b.ef] 54)) wr ∧ Own encI 3 1 (w.alloc (.cells #[.int .i64 b.bf, .int .i64 b.ht, .int .i64 b.vw, .slice p l.length cap, .int .i64 b.rt, .int .i64 b.ef] 54)).heap.size wr s3 (b.head l.length ++ aNums (l.take k))) (fun _ s4 _ => l.length - (intOf s4).toNat)
  case atStart => exact ⟨0, rfl, Nat.zero_le _, (.of (by repeat (first | exact Ext.refl _ | refine Ext.up ?_ _ | refine Ext.alloc ?_ _ | refine Ext.drew ?_ | refine Ext.setRow ?_ (by first | (dsimp only; omega) | exact LeS.le | exact LeS.add _ | (simp; done) | (simp; omega)) _ | refine Ext.setCell ?_ (by first | (dsimp only; omega) | exact LeS.le | exact LeS.add _ | (simp; done) | (simp; omega)) _))), Own.lit rfl LeS.le (by simp [Blk.head, aNums]) (by simp [Blk.head, aNums, encI]) encI_length (by simp [Blk.head, aNums])⟩
  case round =>
    obtain ⟨k, rfl, hk, ⟨z, rfl⟩, hown⟩ := hrel
    by_cases hlt : k < l.length
    · obtain ⟨x, hxk⟩ := getElem?_some_of_lt hlt
      obtain ⟨g, off, hp, hb, _⟩ := hc k x hxk
      obtain ⟨c0, c1, c2, c3⟩ := acell hc hp hxk
      subst hp
      have k0 : (0 : Int) ≤ (k : Int) := by omega
      have k1 : (k : Int) < l.length := by omega
      have Hx := Lib.hid (aNums_snoc hxk); have Hown := Lib.hid hown
      have hle : (b.head l.length ++ aNums (l.take k)).length ≤ 4 + 4 * k := by rw [List.length_append, aNums_length, List.length_take]; simp [Blk.head]; omega
      have Hle := Lib.hid hle
      clear hc hxk hown hle
      go_wp2_with fail
      (go_region_held3 (fun w' => (∀ n i, ∀ [LtS n (w.alloc (.cells #[.int .i64 b.bf, .int .i64 b.ht, .int .i64 b.vw, .slice (some ⟨g, off, none⟩) l.length cap, .int .i64 b.rt, .int .i64 b.ef] 54))], w'.cell? ⟨n, i, none⟩ = World.cell? (w.alloc (.cells #[.int .i64 b.bf, .int .i64 b.ht, .int .i64 b.vw, .slice (some ⟨g, off, none⟩) l.length cap, .int .i64 b.rt, .int .i64 b.ef] 54)) ⟨n, i, none⟩) ∧ Ext (w.alloc (.cells #[.int .i64 b.bf, .int .i64 b.ht, .int .i64 b.vw, .slice (some ⟨g, off, none⟩) l.length cap, .int .i64 b.rt, .int .i64 b.ef] 54)) w') ((refine S_of_ext ?_; (repeat (first | exact Ext.refl _ | refine Ext.up ?_ _ | refine Ext.alloc ?_ _ | refine Ext.drew ?_ | refine Ext.setRow ?_ (by first | (dsimp only; omega) | exact LeS.le | exact LeS.add _ | (simp; done) | (simp; omega)) _ | refine Ext.setCell ?_ (by first | (dsimp only; omega) | exact LeS.le | exact LeS.add _ | (simp; done) | (simp; omega)) _)); done)) (((refine step_pushL fI (by rfl) (.tmp 25) (.tmp 50) (by rfl) encI encI_length _ [x.kind, x.src, x.dst, x.amt] (b.head l.length ++ aNums (l.take k)) (by rfl) (Hown.out.up (by repeat (first | exact Ext.refl _ | refine Ext.up ?_ _ | refine Ext.alloc ?_ _ | refine Ext.drew ?_ | refine Ext.setRow ?_ (by first | (dsimp only; omega) | exact LeS.le | exact LeS.add _ | (simp; done) | (simp; omega)) _ | refine Ext.setCell ?_ (by first | (dsimp only; omega) | exact LeS.le | exact LeS.add _ | (simp; done) | (simp; omega)) _))) (by repeat (first | exact Ext.refl _ | refine Ext.up ?_ _ | refine Ext.alloc ?_ _ | refine Ext.drew ?_ | refine Ext.setRow ?_ (by first | (dsimp only; omega) | exact LeS.le | exact LeS.add _ | (simp; done) | (simp; omega)) _ | refine Ext.setCell ?_ (by first | (dsimp only; omega) | exact LeS.le | exact LeS.add _ | (simp; done) | (simp; omega)) _)) (by rfl) (by rfl) (by decide) (by go_simp) (by rfl) (oneIs _) (by have := Hle.out; simp at this ⊢; omega) (by have := Hle.out; simp at this ⊢; omega) ?_; intro v1 z1 hown1))))
      have hown2 := Lib.hid hown1; clear hown1
      go_wp2_with fail
      go_roundw
      case rel => exact ⟨k + 1, by go_num, by omega, (.of (by repeat (first | exact Ext.refl _ | refine Ext.up ?_ _ | refine Ext.alloc ?_ _ | refine Ext.drew ?_ | refine Ext.setRow ?_ (by first | (dsimp only; omega) | exact LeS.le | exact LeS.add _ | (simp; done) | (simp; omega)) _ | refine Ext.setCell ?_ (by first | (dsimp only; omega) | exact LeS.le | exact LeS.add _ | (simp; done) | (simp; omega)) _))), by rw [Hx.out, ← List.append_assoc]; exact hown2.out⟩
      case measure => simp [intOf]; omega
    · obtain rfl : k = l.length := by omega
      rw [List.take_length] at hown
      have Hown := Lib.hid hown
      have hle : (b.head l.length ++ aNums l).length ≤ 4 + 4 * 10 := by rw [List.length_append, aNums_length]; simp [Blk.head]; omega
      have Hle := Lib.hid hle
      clear hc hown hle
      go_wp2_with (at_builtin; refine wpList_pushL fI rfl (.tmp 52) (.tmp 57) rfl encI encI_length _ [b.rt, b.ef] (b.head l.length ++ aNums l) rfl (Hown.out.up (by repeat (first | exact Ext.refl _ | refine Ext.up ?_ _ | refine Ext.alloc ?_ _ | refine Ext.drew ?_ | refine Ext.setRow ?_ (by first | (dsimp only; omega) | exact LeS.le | exact LeS.add _ | (simp; done) | (simp; omega)) _ | refine Ext.setCell ?_ (by first | (dsimp only; omega) | exact LeS.le | exact LeS.add _ | (simp; done) | (simp; omega)) _))) (by repeat (first | exact Ext.refl _ | refine Ext.up ?_ _ | refine Ext.alloc ?_ _ | refine Ext.drew ?_ | refine Ext.setRow ?_ (by first | (dsimp only; omega) | exact LeS.le | exact LeS.add _ | (simp; done) | (simp; omega)) _ | refine Ext.setCell ?_ (by first | (dsimp only; omega) | exact LeS.le | exact LeS.add _ | (simp; done) | (simp; omega)) _)) rfl rfl (by go_simp) rfl (oneIs _) (by have := Hle.out; simp at this ⊢; omega) (by have := Hle.out; simp at this ⊢; omega) ?_; intro v1 z1 hown1)
      have hown2 := Lib.hid hown1; clear hown1
      go_wp2_with (go_at_call 80; refine (l1Sum_any 5 (b.nums l) _ _ (hown2.out.sl encI_length) (by decide) (by decide) Hsum.out).mono ?_; rintro e w' ⟨rfl, rfl⟩)
      go_ret
      exact ⟨by rw [Hfin.out]; rfl, (.of (by repeat (first | exact Ext.refl _ | refine Ext.up ?_ _ | refine Ext.alloc ?_ _ | refine Ext.drew ?_ | refine Ext.setRow ?_ (by first | (dsimp only; omega) | exact LeS.le | exact LeS.add _ | (simp; done) | (simp; omega)) _ | refine Ext.setCell ?_ (by first | (dsimp only; omega) | exact LeS.le | exact LeS.add _ | (simp; done) | (simp; omega)) _)))⟩
end Go.Proofs.YteiemjebdhmnaaaGreat
namespace Go.Proofs.YteiemjebdhmnaaaGreat
open Go Go.RowKit

def leafOf (key v : Int) : Int := sumL 18 [key, v]
def nodeOf (a b : Int) : Int := sumL 19 [a, b]
/-- The first k leaves. -/
def leafTo (v : List Int) : Nat → List Int
  | 0 => []
  | k + 1 => leafTo v k ++ [leafOf (k : Int) (v.getD k 0)]
theorem leafTo_length (v : List Int) : ∀ k, (leafTo v k).length = k
  | 0 => rfl
  | k + 1 => by simp [leafTo, leafTo_length v k]
/-- The first k sums of the level above. -/
def upTo2 (row : List Int) : Nat → List Int
  | 0 => []
  | k + 1 => upTo2 row k ++ [nodeOf (row.getD (2 * k) 0) (row.getD (2 * k + 1) 0)]
theorem upTo2_length (row : List Int) : ∀ k, (upTo2 row k).length = k
  | 0 => rfl
  | k + 1 => by simp [upTo2, upTo2_length row k]
def lvlUp (row : List Int) : List Int := upTo2 row (row.length / 2)
theorem lvlUp_length (row : List Int) : (lvlUp row).length = row.length / 2 := upTo2_length _ _
/-- Level n of the tree. -/
def treeRow (v : List Int) : Nat → List Int
  | 0 => leafTo v 32
  | n + 1 => lvlUp (treeRow v n)
theorem treeRow_length (v : List Int) : ∀ n, n ≤ 5 → (treeRow v n).length = 32 / 2 ^ n
  | 0, _ => leafTo_length v 32
  | n + 1, h => by
    rw [treeRow, lvlUp_length, treeRow_length v n (by omega), Nat.div_div_eq_div_mul, Nat.pow_succ]
theorem pow_even {n : Nat} (h : n < 5) : 32 / 2 ^ n = 2 * (32 / 2 ^ n / 2) := by
  have : n = 0 ∨ n = 1 ∨ n = 2 ∨ n = 3 ∨ n = 4 := by omega
  rcases this with rfl | rfl | rfl | rfl | rfl <;> rfl
theorem treeRow_even (v : List Int) {n : Nat} (h : n < 5) : (treeRow v n).length = 2 * ((treeRow v n).length / 2) := by
  rw [treeRow_length v n (by omega)]; exact pow_even h
theorem leafOf_in (key v : Int) : 0 ≤ leafOf key v ∧ leafOf key v < 1000003 := sumL_in (by decide) (by decide) _
theorem nodeOf_in (a b : Int) : 0 ≤ nodeOf a b ∧ nodeOf a b < 1000003 := sumL_in (by decide) (by decide) _
theorem leafTo_in (v : List Int) : ∀ k, ∀ x ∈ leafTo v k, 0 ≤ x ∧ x < 1000003
  | 0 => by simp [leafTo]
  | k + 1 => by
    intro x hx
    rw [leafTo, List.mem_append, List.mem_singleton] at hx
    rcases hx with hx | rfl
    · exact leafTo_in v k x hx
    · exact leafOf_in _ _
theorem upTo2_in (row : List Int) : ∀ k, ∀ x ∈ upTo2 row k, 0 ≤ x ∧ x < 1000003
  | 0 => by simp [upTo2]
  | k + 1 => by
    intro x hx
    rw [upTo2, List.mem_append, List.mem_singleton] at hx
    rcases hx with hx | rfl
    · exact upTo2_in row k x hx
    · exact nodeOf_in _ _
theorem treeRow_in (v : List Int) (n : Nat) : ∀ x ∈ treeRow v n, 0 ≤ x ∧ x < 1000003 := by
  cases n with
  | zero => exact leafTo_in v 32
  | succ n => exact upTo2_in _ _
def rootV (v : List Int) : Int := (treeRow v 5).getD 0 0
def rootOf (s : List Ent) : Int := if entsOk 1 s = true then rootV (valsOf s) else -1
theorem rootOf_no {s : List Ent} (h : entsOk 1 s = false) : rootOf s = -1 := by unfold rootOf; rw [h]; rfl
theorem rootOf_yes {s : List Ent} (h : entsOk 1 s = true) : rootOf s = rootV (valsOf s) := by unfold rootOf; rw [h]; rfl
theorem getD_of {l : List Int} {k : Nat} {x : Int} (h : l[k]? = some x) : l.getD k 0 = x := by simp [List.getD, h]
theorem summed_two {a b : Int} (ha : 0 ≤ a ∧ a ≤ 2000000) (hb : 0 ≤ b ∧ b ≤ 2000000) : summed [a, b] = true := by
  rw [summed_iff]; intro n hn; simp at hn; rcases hn with rfl | rfl; exact ha; exact hb
end Go.Proofs.YteiemjebdhmnaaaGreat
namespace Go.Proofs.YteiemjebdhmnaaaGreat
open Go Go.RowKit

/-! ### One value more -/
def putStep (key v : Int) (p : List Ent × Bool) (e : Ent) : List Ent × Bool :=
  (p.1 ++ (if (!p.2 && decide (key ≤ e.k)) = true then [⟨key, v⟩] else []) ++ (if e.k ≠ key then [e] else []), p.2 || decide (key ≤ e.k))
def putTo2 (p0 : Bool) (key v : Int) (l : List Ent) : List Ent × Bool := l.foldl (putStep key v) ([], p0)
def putF (p0 : Bool) (key v : Int) (l : List Ent) : List Ent := if (putTo2 p0 key v l).2 = true then (putTo2 p0 key v l).1 else (putTo2 p0 key v l).1 ++ [⟨key, v⟩]
theorem putTo2_snoc (p0 : Bool) (key v : Int) {l : List Ent} {k : Nat} {x : Ent} (h : l[k]? = some x) : putTo2 p0 key v (l.take (k + 1)) = putStep key v (putTo2 p0 key v (l.take k)) x := by
  rw [List.take_add_one, h]; simp [putTo2]
theorem putTo2_le (p0 : Bool) (key v : Int) (l : List Ent) : (putTo2 p0 key v l).1.length ≤ 2 * l.length := by
  have key' : ∀ (l : List Ent) (p : List Ent × Bool), (l.foldl (putStep key v) p).1.length ≤ p.1.length + 2 * l.length := by
    intro l
    induction l with
    | nil => intro p; simp
    | cons e l ih =>
      intro p
      have := ih (putStep key v p e)
      have h2 : (putStep key v p e).1.length ≤ p.1.length + 2 := by
        unfold putStep
        dsimp only
        rw [List.length_append, List.length_append]
        split <;> split <;> simp <;> omega
      simp only [List.foldl_cons, List.length_cons] at *; omega
  have := key' l ([], p0)
  simpa [putTo2] using this
theorem foldl_placed (key v : Int) : ∀ (l : List Ent) (acc : List Ent), l.foldl (putStep key v) (acc, true) = (acc ++ l.filter (fun e => decide (e.k ≠ key)), true)
  | [], acc => by simp
  | e :: l, acc => by
    rw [List.foldl_cons]
    by_cases h : e.k = key
    · have : putStep key v (acc, true) e = (acc, true) := by simp [putStep, h]
      rw [this, foldl_placed key v l acc]; simp [h]
    · have : putStep key v (acc, true) e = (acc ++ [e], true) := by simp [putStep, h]
      rw [this, foldl_placed key v l (acc ++ [e])]; simp [h]
/-- In a list of ascending keys. -/
def putS (key v : Int) (put : Bool) (l : List Ent) : List Ent := l.filter (fun e => decide (e.k < key)) ++ (if put = true then [⟨key, v⟩] else []) ++ l.filter (fun e => decide (key < e.k))
theorem filter_ne {key : Int} : ∀ {l : List Ent}, l.Pairwise (fun a b => a.k < b.k) → l.filter (fun e => decide (e.k ≠ key)) = l.filter (fun e => decide (e.k < key)) ++ l.filter (fun e => decide (key < e.k))
  | [], _ => rfl
  | e :: l, h => by
    rw [List.pairwise_cons] at h
    have ih := filter_ne (key := key) h.2
    by_cases h1 : e.k < key
    · have h2 : e.k ≠ key := by omega
      have h3 : ¬ key < e.k := by omega
      simp only [List.filter_cons, h1, h2, h3, decide_true, decide_false, if_true, ne_eq, not_false_eq_true, Bool.false_eq_true, if_false, List.cons_append, ih]
    · have hnone : l.filter (fun e => decide (e.k < key)) = [] := by
        rw [List.filter_eq_nil_iff]; intro x hx; have := h.1 x hx; simp; omega
      rw [hnone, List.nil_append] at ih
      by_cases h2 : e.k = key
      · have h3 : ¬ key < e.k := by omega
        simp only [List.filter_cons, h1, h2, h3, decide_true, decide_false, if_true, ne_eq, not_true_eq_false, Bool.false_eq_true, if_false, ih, hnone, List.nil_append]
        simp [h2]
      · have h3 : key < e.k := by omega
        simp only [List.filter_cons, h1, h2, h3, decide_true, decide_false, if_true, ne_eq, not_false_eq_true, Bool.false_eq_true, if_false, ih, hnone, List.nil_append]
theorem putF_asc {key v : Int} {l : List Ent} (h : l.Pairwise fun a b => a.k < b.k) (p0 : Bool) : putF p0 key v l = putS key v (!p0) l := by
  cases p0 with
  | true =>
    unfold putF putTo2
    rw [foldl_placed]
    simp only [if_true, List.nil_append, putS, Bool.not_true, Bool.false_eq_true, if_false, List.append_nil]
    exact filter_ne h
  | false =>
    have key' : ∀ (l acc : List Ent), l.Pairwise (fun a b => a.k < b.k) → (let r := l.foldl (putStep key v) (acc, false); if r.2 = true then r.1 else r.1 ++ [⟨key, v⟩]) = acc ++ putS key v true l := by
      intro l
      induction l with
      | nil => intro acc _; simp [putS]
      | cons e l ih =>
        intro acc h
        rw [List.pairwise_cons] at h
        by_cases h1 : e.k < key
        · have e1 : putStep key v (acc, false) e = (acc ++ [e], false) := by
            have h2 : ¬ key ≤ e.k := by omega
            have h3 : e.k ≠ key := by omega
            simp [putStep, h2, h3]
          have h3 : ¬ key < e.k := by omega
          have := ih (acc ++ [e]) h.2
          rw [List.foldl_cons, e1, this]
          simp [putS, h1, h3]
        · have hnone : l.filter (fun e => decide (e.k < key)) = [] := by
            rw [List.filter_eq_nil_iff]; intro x hx; have := h.1 x hx; simp; omega
          have hall : l.filter (fun e => decide (key < e.k)) = l := by
            rw [List.filter_eq_self]; intro x hx; have := h.1 x hx; simp; omega
          have hall' : l.filter (fun e => decide (e.k ≠ key)) = l := by
            rw [List.filter_eq_self]; intro x hx; have := h.1 x hx; simp; omega
          have e1 : putStep key v (acc, false) e = (acc ++ [⟨key, v⟩] ++ (if e.k ≠ key then [e] else []), true) := by
            have h2 : key ≤ e.k := by omega
            simp [putStep, h2]
          rw [List.foldl_cons, e1, foldl_placed, hall']
          by_cases h2 : e.k = key
          · have h3 : ¬ key < e.k := by omega
            simp only [putS, List.filter_cons, h1, h3, hnone, hall, if_true, decide_false, Bool.false_eq_true, if_false, List.nil_append, h2, ne_eq, not_true_eq_false, List.append_nil]
            simp
          · have h3 : key < e.k := by omega
            simp only [putS, List.filter_cons, h1, h3, hnone, hall, if_true, decide_false, decide_true, Bool.false_eq_true, if_false, List.nil_append, h2, ne_eq, not_false_eq_true]
            simp
    have h1 := key' l [] h
    rw [List.nil_append] at h1
    exact h1
/-! ### Lists of ascending keys by their values -/
theorem atK_append (a b : List Ent) (key : Int) : atK (a ++ b) key = match a.find? (fun e => e.k == key) with | some e => e.v | none => atK b key := by
  unfold atK
  rw [List.find?_append]
  cases a.find? (fun e => e.k == key) <;> rfl
theorem find_filter_ne {l : List Ent} {p : Ent → Bool} {key : Int} (h : ∀ e, e.k = key → p e = false) : (l.filter p).find? (fun e => e.k == key) = none := by
  rw [List.find?_eq_none]
  intro e he
  rw [List.mem_filter] at he
  simp only [beq_iff_eq]
  intro hk
  rw [h e hk] at he; exact absurd he.2 (by simp)
theorem find_filter_eq {l : List Ent} {p : Ent → Bool} {key : Int} (h : ∀ e, e.k = key → p e = true) : (l.filter p).find? (fun e => e.k == key) = l.find? (fun e => e.k == key) := by
  rw [List.find?_filter]
  congr 1
  funext e
  by_cases hk : e.k = key
  · simp [hk, h e hk]
  · simp [hk]
theorem atK_putS {key v : Int} {put : Bool} {l : List Ent} (hv : put = false → v = 0) (n : Int) : atK (putS key v put l) n = if n = key then v else atK l n := by
  unfold putS
  rw [atK_append, List.find?_append]
  by_cases h : n = key
  · subst h
    rw [find_filter_ne (fun e he => by simp; omega), Option.none_or, if_pos rfl]
    cases put with
    | true => simp
    | false =>
      simp only [Bool.false_eq_true, if_false, List.find?_nil]
      rw [hv rfl]
      unfold atK
      rw [find_filter_ne (fun e he => by simp; omega)]
  · rw [if_neg h]
    have hm : (if put = true then [(⟨key, v⟩ : Ent)] else []).find? (fun e => e.k == n) = none := by
      split
      · simp; omega
      · rfl
    rw [hm, Option.or_none]
    by_cases h1 : n < key
    · rw [find_filter_eq (fun e he => by simp; omega)]
      have : atK (l.filter fun e => decide (key < e.k)) n = 0 := by unfold atK; rw [find_filter_ne (fun e he => by simp; omega)]
      rw [this]
      unfold atK
      cases l.find? (fun e => e.k == n) <;> rfl
    · rw [find_filter_ne (fun e he => by simp; omega)]
      unfold atK
      simp only
      rw [find_filter_eq (fun e he => by simp; omega)]
theorem entsOk_of {least : Int} {l : List Ent} (hs : l.Pairwise fun a b => a.k < b.k) (hin : ∀ x ∈ l, 0 ≤ x.k ∧ x.k ≤ 31 ∧ least ≤ x.v ∧ x.v ≤ 1000000) : entsOk least l = true := by
  refine upTo_iff.2 fun i hi => ?_
  obtain ⟨x, hx⟩ := getElem?_some_of_lt hi
  have h1 := hin x (List.mem_of_getElem? hx)
  have h2 : (inR x.k 0 31 && inR x.v least 1000000) = true := by simp only [Bool.and_eq_true, inR_iff]; omega
  by_cases h0 : 0 < i
  · obtain ⟨y, hy⟩ := getElem?_some_of_lt (show i - 1 < l.length by omega)
    rw [entAt_next hx h0 hy, h2, Bool.true_and, decide_eq_true_eq]
    obtain ⟨hi1, hi2⟩ := List.getElem?_eq_some_iff.1 hx
    obtain ⟨hj1, hj2⟩ := List.getElem?_eq_some_iff.1 hy
    rw [List.pairwise_iff_getElem] at hs
    have := hs (i - 1) i hj1 hi1 (by omega)
    rw [hi2, hj2] at this; exact this
  · rw [entAt_first hx h0, h2]
theorem putS_ok {least : Int} {key v : Int} {put : Bool} {l : List Ent} (h : entsOk least l = true) (k0 : 0 ≤ key) (k1 : key ≤ 31) (hv : put = true → least ≤ v ∧ v ≤ 1000000) : entsOk least (putS key v put l) = true := by
  have hs := asc_of h
  refine entsOk_of ?_ fun x hx => ?_
  · unfold putS
    rw [List.pairwise_append, List.pairwise_append]
    refine ⟨⟨hs.filter _, ?_, fun a ha b hb => ?_⟩, hs.filter _, fun a ha b hb => ?_⟩
    · split <;> simp
    · have := (List.mem_filter.1 ha).2
      split at hb
      · simp at hb this; subst hb; exact this
      · simp at hb
    · have h2 := (List.mem_filter.1 hb).2
      simp at h2
      rcases List.mem_append.1 ha with ha | ha
      · have := (List.mem_filter.1 ha).2; simp at this; omega
      · split at ha
        · simp at ha; subst ha; exact h2
        · simp at ha
  · unfold putS at hx
    rcases List.mem_append.1 hx with hx | hx
    · rcases List.mem_append.1 hx with hx | hx
      · exact entsOk_mem h (List.mem_filter.1 hx).1
      · split at hx
        · rename_i hp
          simp at hx; subst hx
          have := hv hp
          exact ⟨k0, k1, this.1, this.2⟩
        · simp at hx
    · exact entsOk_mem h (List.mem_filter.1 hx).1
/-- Stores with the same values are the same. -/
theorem find_asc {l : List Ent} (hs : l.Pairwise fun a b => a.k < b.k) {x : Ent} (hx : x ∈ l) : l.find? (fun e => e.k == x.k) = some x := by
  induction l with
  | nil => cases hx
  | cons a l ih =>
    rw [List.pairwise_cons] at hs
    rw [List.find?_cons]
    rcases List.mem_cons.1 hx with rfl | hx
    · simp
    · have := hs.1 x hx
      have hne : (a.k == x.k) = false := by simp; omega
      simp only [hne]
      exact ih hs.2 hx
theorem sto_mem {a b : List Ent} (ha : entsOk 1 a = true) (hb : entsOk 1 b = true) (h : ∀ key : Int, 0 ≤ key → key ≤ 31 → atK a key = atK b key) {x : Ent} (hx : x ∈ a) : x ∈ b := by
  have hin := entsOk_mem ha hx
  have h1 := h x.k hin.1 hin.2.1
  have h2 : atK a x.k = x.v := by unfold atK; rw [find_asc (asc_of ha) hx]
  rw [h2] at h1
  unfold atK at h1
  split at h1
  · rename_i e he
    have hk := List.find?_some he
    simp at hk
    have hm := List.mem_of_find?_eq_some he
    obtain ⟨k1, v1⟩ := x; obtain ⟨k2, v2⟩ := e
    simp at hk h1; subst hk; subst h1; exact hm
  · omega
theorem ents_perm_eq {a b : List Ent} (ha : a.Pairwise fun x y => x.k < y.k) (hb : b.Pairwise fun x y => x.k < y.k) (h : ∀ x, x ∈ a ↔ x ∈ b) : a = b := by
  have na : a.Nodup := ha.imp fun {x y} hxy e => by subst e; omega
  have nb : b.Nodup := hb.imp fun {x y} hxy e => by subst e; omega
  have hp : a.Perm b := (List.perm_ext_iff_of_nodup na nb).2 h
  exact List.Perm.eq_of_pairwise (le := fun x y : Ent => x.k < y.k) (fun x y _ _ h1 h2 => by omega) ha hb hp
theorem sto_ext {a b : List Ent} (ha : entsOk 1 a = true) (hb : entsOk 1 b = true) (h : ∀ key : Int, 0 ≤ key → key ≤ 31 → atK a key = atK b key) : a = b :=
  ents_perm_eq (asc_of ha) (asc_of hb) fun _ => ⟨fun hx => sto_mem ha hb h hx, fun hx => sto_mem hb ha (fun k h0 h1 => (h k h0 h1).symm) hx⟩
/-! ### Values as a store, and back -/
def valsIn (v : List Int) : Prop := v.length = 32 ∧ ∀ x ∈ v, 0 ≤ x ∧ x ≤ 1000000
theorem stTo_mem {v : List Int} {x : Ent} : ∀ {k : Nat}, x ∈ stTo v k ↔ ∃ i : Nat, i < k ∧ 0 < v.getD i 0 ∧ x = ⟨(i : Int), v.getD i 0⟩
  | 0 => by simp [stTo]
  | k + 1 => by
    rw [stTo, List.mem_append, stTo_mem (k := k)]
    constructor
    · rintro (⟨i, h1, h2⟩ | h)
      · exact ⟨i, by omega, h2⟩
      · split at h
        · rename_i hp; simp at h; exact ⟨k, by omega, hp, h⟩
        · simp at h
    · rintro ⟨i, h1, h2, h3⟩
      by_cases hik : i = k
      · subst hik; right; rw [if_pos h2]; simpa using h3
      · left; exact ⟨i, by omega, h2, h3⟩
theorem stTo_asc (v : List Int) : ∀ k, (stTo v k).Pairwise fun a b => a.k < b.k
  | 0 => by simp [stTo]
  | k + 1 => by
    rw [stTo, List.pairwise_append]
    refine ⟨stTo_asc v k, by split <;> simp, fun a ha b hb => ?_⟩
    obtain ⟨i, h1, _, rfl⟩ := stTo_mem.1 ha
    split at hb
    · simp at hb; subst hb; show (i : Int) < (k : Int); omega
    · simp at hb
theorem valsIn_get {v : List Int} (h : valsIn v) (n : Nat) : 0 ≤ v.getD n 0 ∧ v.getD n 0 ≤ 1000000 := by
  by_cases hn : n < v.length
  · have e : v.getD n 0 = v[n] := by simp [List.getD, hn]
    rw [e]; exact h.2 _ (by simp)
  · have e : v.getD n 0 = 0 := by simp [List.getD, hn]
    rw [e]; omega
theorem storeOf_ok {v : List Int} (h : valsIn v) : entsOk 1 (storeOf v) = true := by
  refine entsOk_of (stTo_asc v 32) fun x hx => ?_
  obtain ⟨i, h1, h2, rfl⟩ := stTo_mem.1 hx
  have := valsIn_get h i
  exact ⟨by show (0 : Int) ≤ (i : Int); omega, by show (i : Int) ≤ 31; omega, by show (1 : Int) ≤ v.getD i 0; omega, this.2⟩
theorem atK_storeOf {v : List Int} (h : valsIn v) {n : Nat} (hn : n < 32) : atK (storeOf v) n = v.getD n 0 := by
  by_cases hp : 0 < v.getD n 0
  · have hm : (⟨(n : Int), v.getD n 0⟩ : Ent) ∈ storeOf v := stTo_mem.2 ⟨n, hn, hp, rfl⟩
    have := find_asc (stTo_asc v 32) hm
    show atK (stTo v 32) n = _
    unfold atK
    rw [show (stTo v 32).find? (fun e => e.k == (n : Int)) = some ⟨(n : Int), v.getD n 0⟩ from this]
  · have h0 := valsIn_get h n
    have hnone : (stTo v 32).find? (fun e => e.k == (n : Int)) = none := by
      rw [List.find?_eq_none]
      intro x hx
      obtain ⟨i, _, h2, rfl⟩ := stTo_mem.1 hx
      simp only [beq_iff_eq]
      intro e
      have : i = n := by have : (i : Int) = (n : Int) := e; omega
      subst this; exact hp h2
    show atK (stTo v 32) n = _
    unfold atK; rw [hnone]; show (0 : Int) = _; omega
theorem valsOf_getD {least : Int} {l : List Ent} (h : entsOk least l = true) {n : Nat} (hn : n < 32) : (valsOf l).getD n 0 = atK l n := by
  simp [List.getD, valsOf_get h hn]
theorem valsOf_in {l : List Ent} (h : entsOk 0 l = true) : valsIn (valsOf l) := by
  refine ⟨valsOf_length l, fun x hx => ?_⟩
  obtain ⟨i, hi⟩ := List.getElem?_of_mem hx
  have hlt : i < 32 := by have := (List.getElem?_eq_some_iff.1 hi).1; rw [valsOf_length] at this; exact this
  rw [valsOf_get h hlt] at hi
  cases hi
  exact atK_in h (by omega) _
theorem storeOf_valsOf {l : List Ent} (h : entsOk 1 l = true) : storeOf (valsOf l) = l := by
  have hv := valsOf_in (entsOk_least (by decide) h)
  refine sto_ext (storeOf_ok hv) h fun key k0 k1 => ?_
  have := atK_storeOf hv (n := key.toNat) (by omega)
  rw [show ((key.toNat : Nat) : Int) = key from by omega] at this
  rw [this, valsOf_getD h (by omega), show ((key.toNat : Nat) : Int) = key from by omega]
theorem valsOf_storeOf {v : List Int} (h : valsIn v) : valsOf (storeOf v) = v := by
  apply List.ext_getElem?
  intro n
  by_cases hn : n < 32
  · rw [valsOf_get (storeOf_ok h) hn, atK_storeOf h hn]
    have : n < v.length := by rw [h.1]; exact hn
    simp [List.getD, this]
  · rw [List.getElem?_eq_none (by rw [valsOf_length]; omega), List.getElem?_eq_none (by rw [h.1]; omega)]
theorem valsIn_set {v : List Int} (h : valsIn v) {n : Nat} {x : Int} (hx : 0 ≤ x ∧ x ≤ 1000000) : valsIn (v.set n x) := by
  refine ⟨by rw [List.length_set]; exact h.1, fun y hy => ?_⟩
  rcases List.mem_or_eq_of_mem_set hy with h1 | h1
  · exact h.2 y h1
  · subst h1; exact hx
theorem valsIn_vsets {l : List Ent} (hl : ∀ x ∈ l, 0 ≤ x.v ∧ x.v ≤ 1000000) : ∀ {v : List Int}, valsIn v → valsIn (vsets v l) := by
  induction l with
  | nil => intro v h; exact h
  | cons e l ih => intro v h; exact ih (fun x hx => hl x (by simp [hx])) (valsIn_set h (hl e (by simp)))
/-- What the reference puts into a store is what the program sets in the values. -/
theorem putF_store {v : List Int} (h : valsIn v) {e : Ent} (k0 : 0 ≤ e.k) (k1 : e.k ≤ 31) (v0 : 0 ≤ e.v) (v1 : e.v ≤ 1000000) : putF (decide (e.v = 0)) e.k e.v (storeOf v) = storeOf (vset v e) := by
  have hs := storeOf_ok h
  have hv2 : valsIn (vset v e) := valsIn_set h ⟨v0, v1⟩
  rw [putF_asc (asc_of hs)]
  refine sto_ext (putS_ok hs k0 k1 fun hp => ?_) (storeOf_ok hv2) fun key h0 h1 => ?_
  · simp at hp; omega
  · rw [atK_putS (fun hp => by simpa using hp)]
    have h2 := atK_storeOf hv2 (n := key.toNat) (by omega)
    have h3 := atK_storeOf h (n := key.toNat) (by omega)
    rw [show ((key.toNat : Nat) : Int) = key from by omega] at h2 h3
    rw [h2, h3]
    have hl : key.toNat < v.length := by rw [h.1]; omega
    have hg := vset_get (v := v) (e := e) k0 hl
    by_cases hk : key = e.k
    · rw [if_pos hk]
      rw [if_pos (by omega)] at hg
      simp [List.getD, hg]
    · rw [if_neg hk]
      rw [if_neg (by omega)] at hg
      simp [List.getD, hg]
end Go.Proofs.YteiemjebdhmnaaaGreat
