/- Walks: FnExactBlockSum: sums of blocks. -/
import Derived.Test.YtknohbdhbjppjaaOld
import Derived.Test.YtknohbdhbjppjaaSum
import Derived.Test.YtknohbdhbjppjaaOrd
import Derived.StillTailTactics
namespace Go.Proofs.Ytknohbdhbjppjaa
open Go Go.RowKit Go.Proofs

def Blk.head (b : Blk) (n : Nat) : List Int := [b.bf, b.ht, b.vw, (n : Int)]
def Blk.nums (b : Blk) (l : List Actn) : List Int := (b.head l.length ++ aNums l) ++ [b.rt, b.ef]
theorem Blk.nums_summed {b : Blk} {l : List Actn} (h : b.okL l = true) : summed (b.nums l) = true := by
  simp only [Blk.okL, Bool.and_eq_true, inR_iff] at h
  obtain ⟨h1, h2, h3, h4, h5, h6⟩ := h
  have hl := actsOk_len h6
  refine summed_append (summed_append (summed_iff.2 ?_) (aNums_summed fun x hx => ?_)) (summed_iff.2 ?_)
  · intro n hn; simp [Blk.head] at hn; omega
  · obtain ⟨i, hi⟩ := List.getElem?_of_mem hx; exact actsOk_at h6 hi
  · intro n hn; simp at hn; omega
def bsum (b : Blk) (l : List Actn) : Int := if b.okL l = true then sumL 22 (b.nums l) else -1
theorem bsum_no {b : Blk} {l : List Actn} (h : b.okL l = false) : bsum b l = -1 := by unfold bsum; rw [h]; rfl
theorem bsum_yes {b : Blk} {l : List Actn} (h : b.okL l = true) : bsum b l = sumL 22 (b.nums l) := by unfold bsum; rw [h]; rfl
theorem Blk.okL_acts {b : Blk} {l : List Actn} (h : b.okL l = true) : actsOk l = true := by
  simp only [Blk.okL, Bool.and_eq_true] at h; exact h.2.2.2.2.2
set_option maxRecDepth 100000 in
set_option maxHeartbeats 2000000 in
theorem iBlockSum_any (b : Blk) (l : List Actn) (v : Value) (w : World) (h : SL (RF Actn.enc) 4 w v l) :
    Calls Try.prog 111 #[.agg #[.int .i64 b.bf, .int .i64 b.ht, .int .i64 b.vw, v, .int .i64 b.rt, .int .i64 b.ef]] w fun e w' => e = .returned (.int .i64 (bsum b l)) ∧ Up w w' := by
  have hs := h
  obtain ⟨p, cap, rfl, hlen, hc⟩ := h.open
  have Hs := Lib.hid hs; clear h hs
  rcases hok : b.okL l with _ | _
  · rw [bsum_no hok]
    have kz := fun w h => iBlockValid_any b l (.slice p l.length cap) w h
    rw [hok] at kz
    go_enter Try.func111, Try.ntmps111
    go_wp2_with (go_at_call 114; refine (kz _ (Hs.out.up (by repeat (first | exact Ext.refl _ | refine Ext.up ?_ _ | refine Ext.alloc ?_ _ | refine Ext.drew ?_ | refine Ext.setRow ?_ (by first | (dsimp only; omega) | exact LeS.le | exact LeS.add _ | (simp; done) | (simp; omega)) _ | refine Ext.setCell ?_ (by first | (dsimp only; omega) | exact LeS.le | exact LeS.add _ | (simp; done) | (simp; omega)) _)))).mono ?_; rintro e w' ⟨rfl, z0, rfl⟩)
    go_ret
    exact ⟨rfl, (.of (by repeat (first | exact Ext.refl _ | refine Ext.up ?_ _ | refine Ext.alloc ?_ _ | refine Ext.drew ?_ | refine Ext.setRow ?_ (by first | (dsimp only; omega) | exact LeS.le | exact LeS.add _ | (simp; done) | (simp; omega)) _ | refine Ext.setCell ?_ (by first | (dsimp only; omega) | exact LeS.le | exact LeS.add _ | (simp; done) | (simp; omega)) _)))⟩
  have hl10 := actsOk_len (Blk.okL_acts hok)
  have Hsum := Lib.hid (Blk.nums_summed hok)
  have Hfin := Lib.hid ((bsum_yes hok).trans (sumOf_yes (tag := 5) (by decide) (by decide) (Blk.nums_summed hok)).symm)
  have kz := fun w h => iBlockValid_any b l (.slice p l.length cap) w h
  rw [hok] at kz
  have Hok := Lib.hid hok; clear hok
  go_enter Try.func111, Try.ntmps111
  go_wp2_with (go_at_call 114; refine (kz _ (Hs.out.up (by repeat (first | exact Ext.refl _ | refine Ext.up ?_ _ | refine Ext.alloc ?_ _ | refine Ext.drew ?_ | refine Ext.setRow ?_ (by first | (dsimp only; omega) | exact LeS.le | exact LeS.add _ | (simp; done) | (simp; omega)) _ | refine Ext.setCell ?_ (by first | (dsimp only; omega) | exact LeS.le | exact LeS.add _ | (simp; done) | (simp; omega)) _)))).mono ?_; rintro e w' ⟨rfl, z0, rfl⟩)
  go_loopw [3, 5, 22] (fun s3 _ s22 wr => ∃ k : Nat, s22 = .int .i64 k ∧ k ≤ l.length ∧ Up (w.alloc (.cells #[.int .i64 b.bf, .int .i64 b.ht, .int .i64 b.vw, .slice p l.length cap, .int .i64 b.rt, .int .i64 b.ef] 26)) wr ∧ Own encI 3 1 (w.alloc (.cells #[.int .i64 b.bf, .int .i64 b.ht, .int .i64 b.vw, .slice p l.length cap, .int .i64 b.rt, .int .i64 b.ef] 26)).heap.size wr s3 (b.head l.length ++ aNums (l.take k))) (fun _ _ s22 _ => l.length - (intOf s22).toNat)
  case atStart => exact ⟨0, rfl, Nat.zero_le _, (.of (by repeat (first | exact Ext.refl _ | refine Ext.up ?_ _ | refine Ext.alloc ?_ _ | refine Ext.drew ?_ | refine Ext.setRow ?_ (by first | (dsimp only; omega) | exact LeS.le | exact LeS.add _ | (simp; done) | (simp; omega)) _ | refine Ext.setCell ?_ (by first | (dsimp only; omega) | exact LeS.le | exact LeS.add _ | (simp; done) | (simp; omega)) _))), Own.lit rfl LeS.le (by simp [Blk.head, aNums]) (by simp [Blk.head, aNums, encI]) encI_length (by simp [Blk.head, aNums])⟩
  case round =>
    obtain ⟨k, rfl, hk, ⟨z, rfl⟩, hown⟩ := hrel
    by_cases hlt : k < l.length
    · obtain ⟨x, hxk⟩ := getElem?_some_of_lt hlt
      obtain ⟨g, off, hp, hb, _⟩ := hc k x hxk
      obtain ⟨c0, c1, c2, c3⟩ := acell hc hp hxk
      subst hp
      have Hx := Lib.hid (aNums_snoc hxk); have Hown := Lib.hid hown
      have hle : (b.head l.length ++ aNums (l.take k)).length ≤ 4 + 4 * k := by rw [List.length_append, aNums_length, List.length_take]; simp [Blk.head]; omega
      have Hle := Lib.hid hle
      clear hc hxk hown hle
      go_wp2_with (at_builtin; refine wpList_pushL fI rfl (.tmp 26) (.tmp 35) rfl encI encI_length _ [x.kind, x.src, x.dst, x.amt] (b.head l.length ++ aNums (l.take k)) rfl (Hown.out.up (by repeat (first | exact Ext.refl _ | refine Ext.up ?_ _ | refine Ext.alloc ?_ _ | refine Ext.drew ?_ | refine Ext.setRow ?_ (by first | (dsimp only; omega) | exact LeS.le | exact LeS.add _ | (simp; done) | (simp; omega)) _ | refine Ext.setCell ?_ (by first | (dsimp only; omega) | exact LeS.le | exact LeS.add _ | (simp; done) | (simp; omega)) _))) (by repeat (first | exact Ext.refl _ | refine Ext.up ?_ _ | refine Ext.alloc ?_ _ | refine Ext.drew ?_ | refine Ext.setRow ?_ (by first | (dsimp only; omega) | exact LeS.le | exact LeS.add _ | (simp; done) | (simp; omega)) _ | refine Ext.setCell ?_ (by first | (dsimp only; omega) | exact LeS.le | exact LeS.add _ | (simp; done) | (simp; omega)) _)) rfl rfl (by go_simp) rfl (oneIs _) (by have := Hle.out; simp at this ⊢; omega) (by have := Hle.out; simp at this ⊢; omega) ?_; intro v1 z1 hown1)
      have hown2 := Lib.hid hown1; clear hown1
      go_wp2_with fail
      go_roundw
      case rel => exact ⟨k + 1, by go_num, by omega, (.of (by repeat (first | exact Ext.refl _ | refine Ext.up ?_ _ | refine Ext.alloc ?_ _ | refine Ext.drew ?_ | refine Ext.setRow ?_ (by first | (dsimp only; omega) | exact LeS.le | exact LeS.add _ | (simp; done) | (simp; omega)) _ | refine Ext.setCell ?_ (by first | (dsimp only; omega) | exact LeS.le | exact LeS.add _ | (simp; done) | (simp; omega)) _))), by rw [Hx.out, ← List.append_assoc]; exact hown2.out⟩
      case measure => simp [intOf]; omega
    · obtain rfl : k = l.length := by omega
      rw [List.take_length] at hown
      have Hown := Lib.hid hown
      have hle : (b.head l.length ++ aNums l).length ≤ 4 + 4 * 10 := by rw [List.length_append, aNums_length]; simp [Blk.head]; omega
      have Hle := Lib.hid hle
      clear hc hown hle
      go_wp2_with (at_builtin; refine wpList_pushL fI rfl (.tmp 38) (.tmp 43) rfl encI encI_length _ [b.rt, b.ef] (b.head l.length ++ aNums l) rfl (Hown.out.up (by repeat (first | exact Ext.refl _ | refine Ext.up ?_ _ | refine Ext.alloc ?_ _ | refine Ext.drew ?_ | refine Ext.setRow ?_ (by first | (dsimp only; omega) | exact LeS.le | exact LeS.add _ | (simp; done) | (simp; omega)) _ | refine Ext.setCell ?_ (by first | (dsimp only; omega) | exact LeS.le | exact LeS.add _ | (simp; done) | (simp; omega)) _))) (by repeat (first | exact Ext.refl _ | refine Ext.up ?_ _ | refine Ext.alloc ?_ _ | refine Ext.drew ?_ | refine Ext.setRow ?_ (by first | (dsimp only; omega) | exact LeS.le | exact LeS.add _ | (simp; done) | (simp; omega)) _ | refine Ext.setCell ?_ (by first | (dsimp only; omega) | exact LeS.le | exact LeS.add _ | (simp; done) | (simp; omega)) _)) rfl rfl (by go_simp) rfl (oneIs _) (by have := Hle.out; simp at this ⊢; omega) (by have := Hle.out; simp at this ⊢; omega) ?_; intro v1 z1 hown1)
      have hown2 := Lib.hid hown1; clear hown1
      go_wp2_with (go_at_call 131; refine (sumOf_any 5 (b.nums l) _ _ (hown2.out.sl encI_length)).mono ?_; rintro e w' ⟨rfl, z2, rfl⟩)
      go_ret
      exact ⟨by rw [Hfin.out]; rfl, (.of (by repeat (first | exact Ext.refl _ | refine Ext.up ?_ _ | refine Ext.alloc ?_ _ | refine Ext.drew ?_ | refine Ext.setRow ?_ (by first | (dsimp only; omega) | exact LeS.le | exact LeS.add _ | (simp; done) | (simp; omega)) _ | refine Ext.setCell ?_ (by first | (dsimp only; omega) | exact LeS.le | exact LeS.add _ | (simp; done) | (simp; omega)) _)))⟩
set_option maxRecDepth 100000 in
set_option maxHeartbeats 2000000 in
theorem sBlockSum_any (b : Blk) (l : List Actn) (v : Value) (w : World) (h : SL (RF Actn.enc) 4 w v l) :
    Calls Try.prog 107 #[.agg #[.int .i64 b.bf, .int .i64 b.ht, .int .i64 b.vw, v, .int .i64 b.rt, .int .i64 b.ef]] w fun e w' => e = .returned (.int .i64 (bsum b l)) ∧ Up w w' := by
  have hs := h
  obtain ⟨p, cap, rfl, hlen, hc⟩ := h.open
  have Hs := Lib.hid hs; clear h hs
  rcases hok : b.okL l with _ | _
  · rw [bsum_no hok]
    have kz := fun w h => sBlockValid_any b l (.slice p l.length cap) w h
    rw [hok] at kz
    go_enter Try.func107, Try.ntmps107
    go_wp2_with (go_at_call 105; refine (kz _ (Hs.out.up (by repeat (first | exact Ext.refl _ | refine Ext.up ?_ _ | refine Ext.alloc ?_ _ | refine Ext.drew ?_ | refine Ext.setRow ?_ (by first | (dsimp only; omega) | exact LeS.le | exact LeS.add _ | (simp; done) | (simp; omega)) _ | refine Ext.setCell ?_ (by first | (dsimp only; omega) | exact LeS.le | exact LeS.add _ | (simp; done) | (simp; omega)) _)))).mono ?_; rintro e w' ⟨rfl, z0, rfl⟩)
    go_ret
    exact ⟨rfl, (.of (by repeat (first | exact Ext.refl _ | refine Ext.up ?_ _ | refine Ext.alloc ?_ _ | refine Ext.drew ?_ | refine Ext.setRow ?_ (by first | (dsimp only; omega) | exact LeS.le | exact LeS.add _ | (simp; done) | (simp; omega)) _ | refine Ext.setCell ?_ (by first | (dsimp only; omega) | exact LeS.le | exact LeS.add _ | (simp; done) | (simp; omega)) _)))⟩
  have hl10 := actsOk_len (Blk.okL_acts hok)
  have Hsum := Lib.hid (Blk.nums_summed hok)
  have Hfin := Lib.hid (bsum_yes hok)
  have kz := fun w h => sBlockValid_any b l (.slice p l.length cap) w h
  rw [hok] at kz
  have Hok := Lib.hid hok; clear hok
  go_enter Try.func107, Try.ntmps107
  go_wp2_with (go_at_call 105; refine (kz _ (Hs.out.up (by repeat (first | exact Ext.refl _ | refine Ext.up ?_ _ | refine Ext.alloc ?_ _ | refine Ext.drew ?_ | refine Ext.setRow ?_ (by first | (dsimp only; omega) | exact LeS.le | exact LeS.add _ | (simp; done) | (simp; omega)) _ | refine Ext.setCell ?_ (by first | (dsimp only; omega) | exact LeS.le | exact LeS.add _ | (simp; done) | (simp; omega)) _)))).mono ?_; rintro e w' ⟨rfl, z0, rfl⟩)
  go_loopw [3, 4] (fun s3 s4 wr => ∃ k : Nat, s4 = .int .i64 k ∧ k ≤ l.length ∧ Up (w.alloc (.cells #[.int .i64 b.bf, .int .i64 b.ht, .int .i64 b.vw, .slice p l.length cap, .int .i64 b.rt, .int .i64 b.ef] 26)) wr ∧ Own encI 3 1 (w.alloc (.cells #[.int .i64 b.bf, .int .i64 b.ht, .int .i64 b.vw, .slice p l.length cap, .int .i64 b.rt, .int .i64 b.ef] 26)).heap.size wr s3 (b.head l.length ++ aNums (l.take k))) (fun _ s4 _ => l.length - (intOf s4).toNat)
  case atStart => exact ⟨0, rfl, Nat.zero_le _, (.of (by repeat (first | exact Ext.refl _ | refine Ext.up ?_ _ | refine Ext.alloc ?_ _ | refine Ext.drew ?_ | refine Ext.setRow ?_ (by first | (dsimp only; omega) | exact LeS.le | exact LeS.add _ | (simp; done) | (simp; omega)) _ | refine Ext.setCell ?_ (by first | (dsimp only; omega) | exact LeS.le | exact LeS.add _ | (simp; done) | (simp; omega)) _))), Own.lit rfl LeS.le (by simp [Blk.head, aNums]) (by simp [Blk.head, aNums, encI]) encI_length (by simp [Blk.head, aNums])⟩
  case round =>
    obtain ⟨k, rfl, hk, ⟨z, rfl⟩, hown⟩ := hrel
    by_cases hlt : k < l.length
    · obtain ⟨x, hxk⟩ := getElem?_some_of_lt hlt
      obtain ⟨g, off, hp, hb, _⟩ := hc k x hxk
      obtain ⟨c0, c1, c2, c3⟩ := acell hc hp hxk
      subst hp
      have k0 : (0 : Int) ≤ (k : Int) := by omega
      have k1 : (k : Int) < l.length := by omega
      have Hx := Lib.hid (aNums_snoc hxk); have Hown := Lib.hid hown
      have hle : (b.head l.length ++ aNums (l.take k)).length ≤ 4 + 4 * k := by rw [List.length_append, aNums_length, List.length_take]; simp [Blk.head]; omega
      have Hle := Lib.hid hle
      clear hc hxk hown hle
      go_wp2_with fail
      (go_region_held3 (fun w' => (∀ n i, ∀ [LtS n (w.alloc (.cells #[.int .i64 b.bf, .int .i64 b.ht, .int .i64 b.vw, .slice (some ⟨g, off, none⟩) l.length cap, .int .i64 b.rt, .int .i64 b.ef] 26))], w'.cell? ⟨n, i, none⟩ = World.cell? (w.alloc (.cells #[.int .i64 b.bf, .int .i64 b.ht, .int .i64 b.vw, .slice (some ⟨g, off, none⟩) l.length cap, .int .i64 b.rt, .int .i64 b.ef] 26)) ⟨n, i, none⟩) ∧ Ext (w.alloc (.cells #[.int .i64 b.bf, .int .i64 b.ht, .int .i64 b.vw, .slice (some ⟨g, off, none⟩) l.length cap, .int .i64 b.rt, .int .i64 b.ef] 26)) w') ((refine S_of_ext ?_; (repeat (first | exact Ext.refl _ | refine Ext.up ?_ _ | refine Ext.alloc ?_ _ | refine Ext.drew ?_ | refine Ext.setRow ?_ (by first | (dsimp only; omega) | exact LeS.le | exact LeS.add _ | (simp; done) | (simp; omega)) _ | refine Ext.setCell ?_ (by first | (dsimp only; omega) | exact LeS.le | exact LeS.add _ | (simp; done) | (simp; omega)) _)); done)) (((refine step_pushL fI (by rfl) (.tmp 25) (.tmp 50) (by rfl) encI encI_length _ [x.kind, x.src, x.dst, x.amt] (b.head l.length ++ aNums (l.take k)) (by rfl) (Hown.out.up (by repeat (first | exact Ext.refl _ | refine Ext.up ?_ _ | refine Ext.alloc ?_ _ | refine Ext.drew ?_ | refine Ext.setRow ?_ (by first | (dsimp only; omega) | exact LeS.le | exact LeS.add _ | (simp; done) | (simp; omega)) _ | refine Ext.setCell ?_ (by first | (dsimp only; omega) | exact LeS.le | exact LeS.add _ | (simp; done) | (simp; omega)) _))) (by repeat (first | exact Ext.refl _ | refine Ext.up ?_ _ | refine Ext.alloc ?_ _ | refine Ext.drew ?_ | refine Ext.setRow ?_ (by first | (dsimp only; omega) | exact LeS.le | exact LeS.add _ | (simp; done) | (simp; omega)) _ | refine Ext.setCell ?_ (by first | (dsimp only; omega) | exact LeS.le | exact LeS.add _ | (simp; done) | (simp; omega)) _)) (by rfl) (by rfl) (by decide) (by go_simp) (by rfl) (oneIs _) (by have := Hle.out; simp at this ⊢; omega) (by have := Hle.out; simp at this ⊢; omega) ?_; intro v1 z1 hown1))))
      have hown2 := Lib.hid hown1; clear hown1
      go_wp2_with fail
      go_roundw
      case rel => exact ⟨k + 1, by go_num, by omega, (.of (by repeat (first | exact Ext.refl _ | refine Ext.up ?_ _ | refine Ext.alloc ?_ _ | refine Ext.drew ?_ | refine Ext.setRow ?_ (by first | (dsimp only; omega) | exact LeS.le | exact LeS.add _ | (simp; done) | (simp; omega)) _ | refine Ext.setCell ?_ (by first | (dsimp only; omega) | exact LeS.le | exact LeS.add _ | (simp; done) | (simp; omega)) _))), by rw [Hx.out, ← List.append_assoc]; exact hown2.out⟩
      case measure => simp [intOf]; omega
    · obtain rfl : k = l.length := by omega
      rw [List.take_length] at hown
      have Hown := Lib.hid hown
      have hle : (b.head l.length ++ aNums l).length ≤ 4 + 4 * 10 := by rw [List.length_append, aNums_length]; simp [Blk.head]; omega
      have Hle := Lib.hid hle
      clear hc hown hle
      go_wp2_with (at_builtin; refine wpList_pushL fI rfl (.tmp 52) (.tmp 57) rfl encI encI_length _ [b.rt, b.ef] (b.head l.length ++ aNums l) rfl (Hown.out.up (by repeat (first | exact Ext.refl _ | refine Ext.up ?_ _ | refine Ext.alloc ?_ _ | refine Ext.drew ?_ | refine Ext.setRow ?_ (by first | (dsimp only; omega) | exact LeS.le | exact LeS.add _ | (simp; done) | (simp; omega)) _ | refine Ext.setCell ?_ (by first | (dsimp only; omega) | exact LeS.le | exact LeS.add _ | (simp; done) | (simp; omega)) _))) (by repeat (first | exact Ext.refl _ | refine Ext.up ?_ _ | refine Ext.alloc ?_ _ | refine Ext.drew ?_ | refine Ext.setRow ?_ (by first | (dsimp only; omega) | exact LeS.le | exact LeS.add _ | (simp; done) | (simp; omega)) _ | refine Ext.setCell ?_ (by first | (dsimp only; omega) | exact LeS.le | exact LeS.add _ | (simp; done) | (simp; omega)) _)) rfl rfl (by go_simp) rfl (oneIs _) (by have := Hle.out; simp at this ⊢; omega) (by have := Hle.out; simp at this ⊢; omega) ?_; intro v1 z1 hown1)
      have hown2 := Lib.hid hown1; clear hown1
      go_wp2_with (go_at_call 149; refine (l1Sum_any 5 (b.nums l) _ _ (hown2.out.sl encI_length) (by decide) (by decide) Hsum.out).mono ?_; rintro e w' ⟨rfl, rfl⟩)
      go_ret
      exact ⟨by rw [Hfin.out]; rfl, (.of (by repeat (first | exact Ext.refl _ | refine Ext.up ?_ _ | refine Ext.alloc ?_ _ | refine Ext.drew ?_ | refine Ext.setRow ?_ (by first | (dsimp only; omega) | exact LeS.le | exact LeS.add _ | (simp; done) | (simp; omega)) _ | refine Ext.setCell ?_ (by first | (dsimp only; omega) | exact LeS.le | exact LeS.add _ | (simp; done) | (simp; omega)) _)))⟩
end Go.Proofs.Ytknohbdhbjppjaa
