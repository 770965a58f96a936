/- Walks: sums of effects, the reference's side. Walks: right blocks; the law FnExactBlockRight. Walks: comparisons and marks of slices of bools (the laws' helpers). Walks: values ahead of blocks, right blocks (printed by wip/mkrts.py). Walks: serial runs of whatever stores and actions, the program's side. -/
import Derived.Test.YteiemjebdhmnaaaGreatGLxTop12
import Derived.Test.YteiemjebdhmnaaaGreatGLxTop17
import Derived.Test.YteiemjebdhmnaaaGreatGLxTop20
import Derived.Test.YteiemjebdhmnaaaGreatGLxTop23
import Derived.Test.YteiemjebdhmnaaaGreatGLxTop24
import Derived.Test.YteiemjebdhmnaaaGreatGLxTop02
import Derived.Test.YteiemjebdhmnaaaGreatGLxTop01
set_option linter.unusedSimpArgs false
set_option linter.unusedVariables false
namespace Go.Proofs.YteiemjebdhmnaaaGreat
open Go Go.RowKit Go.Proofs

set_option maxRecDepth 100000 in
set_option maxHeartbeats 4000000 in
theorem sEffectSum_any (d : Bool) (vr vw : Value) (r u : List Ent) (w : World) (hr : SL (RF Ent.enc) 2 w vr r) (hu : SL (RF Ent.enc) 2 w vw u) (hrl : r.length ≤ 1000) (hul : u.length ≤ 1000) :
    Calls Tryz.prog 115 #[.agg #[.bool d, vr, vw]] w fun e w' => e = .returned (.int .i64 (effSum ⟨d, r, u⟩)) ∧ Up w w' := by
  obtain ⟨p1, c1, rfl, _, hcr⟩ := hr.open
  obtain ⟨p2, c2, rfl, _, hcu⟩ := hu.open
  clear hr hu
  go_enter Tryz.func115, Tryz.ntmps115
  rcases d with _ | _
  · go_wp2_with fail
    go_loopw [3, 4] (fun s3 s4 wr => ∃ k : Nat, s4 = .int .i64 k ∧ k ≤ r.length ∧ Up (w.alloc (.cells #[.bool false, .slice p1 r.length c1, .slice p2 u.length c2] 62)) wr ∧ Own encI 3 1 (w.alloc (.cells #[.bool false, .slice p1 r.length c1, .slice p2 u.length c2] 62)).heap.size wr s3 ([0, (r.length : Int)] ++ entNums (r.take k))) (fun _ s4 _ => r.length - (intOf s4).toNat)
    case atStart => exact ⟨0, rfl, Nat.zero_le _, (.of (by repeat (first | (with_reducible exact Ext.refl _) | (with_reducible refine Ext.up ?_ _) | (with_reducible refine Ext.alloc ?_ _) | (with_reducible refine Ext.drew ?_) | (with_reducible refine Ext.setRow ?_ (by first | exact LeS.le | exact LeS.add _ | (simp; done) | (simp; omega)) _) | (with_reducible refine Ext.setCell ?_ (by first | exact LeS.le | exact LeS.add _ | (simp; done) | (simp; omega)) _)))), by simpa [entNums] using (Own.lit (lo := (w.alloc (.cells #[.bool false, .slice p1 r.length c1, .slice p2 u.length c2] 62)).heap.size) rfl (Nat.le_refl _) rfl rfl encI_length (by simp) : Own encI 3 1 (w.alloc (.cells #[.bool false, .slice p1 r.length c1, .slice p2 u.length c2] 62)).heap.size ((w.alloc (.cells #[.bool false, .slice p1 r.length c1, .slice p2 u.length c2] 62)).alloc (.cells #[.int .i64 0, .int .i64 r.length] 3)) (.slice (some ⟨(w.alloc (.cells #[.bool false, .slice p1 r.length c1, .slice p2 u.length c2] 62)).heap.size, 0, none⟩) 2 2) [0, (r.length : Int)])⟩
    case round =>
      obtain ⟨k, rfl, hk, ⟨z, rfl⟩, hown⟩ := hrel
      have Hown := Lib.hid hown; clear hown
      by_cases hlt : k < r.length
      · obtain ⟨x, hxk⟩ := getElem?_some_of_lt hlt
        obtain ⟨b, off, rfl, hb, hcc⟩ := hcr k x hxk
        have e0 : w.cell? ⟨b, off + k * 2, none⟩ = some (.int .i64 x.k) := hcc 0 _ rfl
        have e1 : w.cell? ⟨b, off + k * 2 + 1, none⟩ = some (.int .i64 x.v) := hcc 1 _ rfl
        have k0 : (0 : Int) ≤ (k : Int) := by omega
        have k1 : (k : Int) < r.length := by omega
        have Hx := Lib.hid (entNums_snoc hxk)
        have hle : ([0, (r.length : Int)] ++ entNums (r.take k)).length ≤ 10000 := by simp only [List.length_append, entNums_length, List.length_take, List.length_cons, List.length_nil]; omega
        have Hle := Lib.hid hle
        clear hcr hcu hxk hle hcc
        go_wp2_with fail
        (go_region_held3 (fun w' => (∀ n i, ∀ [LtS n (w.alloc (.cells #[.bool false, .slice (some ⟨b, off, none⟩) r.length c1, .slice p2 u.length c2] 62))], w'.cell? ⟨n, i, none⟩ = World.cell? (w.alloc (.cells #[.bool false, .slice (some ⟨b, off, none⟩) r.length c1, .slice p2 u.length c2] 62)) ⟨n, i, none⟩) ∧ Ext (w.alloc (.cells #[.bool false, .slice (some ⟨b, off, none⟩) r.length c1, .slice p2 u.length c2] 62)) w') ((refine S_of_ext ?_; (repeat (first | exact Ext.refl _ | refine Ext.up ?_ _ | refine Ext.alloc ?_ _ | refine Ext.drew ?_ | refine Ext.setRow ?_ (by first | (dsimp only; omega) | exact LeS.le | exact LeS.add _ | (simp; done) | (simp; omega)) _ | refine Ext.setCell ?_ (by first | (dsimp only; omega) | exact LeS.le | exact LeS.add _ | (simp; done) | (simp; omega)) _)); done)) (((refine step_pushL fI (by rfl) (.tmp 21) (.tmp 34) (by rfl) encI encI_length _ [x.k, x.v] ([0, (r.length : Int)] ++ entNums (r.take k)) (by rfl) (Hown.out.up (by repeat (first | exact Ext.refl _ | refine Ext.up ?_ _ | refine Ext.alloc ?_ _ | refine Ext.drew ?_ | refine Ext.setRow ?_ (by first | (dsimp only; omega) | exact LeS.le | exact LeS.add _ | (simp; done) | (simp; omega)) _ | refine Ext.setCell ?_ (by first | (dsimp only; omega) | exact LeS.le | exact LeS.add _ | (simp; done) | (simp; omega)) _))) (by repeat (first | exact Ext.refl _ | refine Ext.up ?_ _ | refine Ext.alloc ?_ _ | refine Ext.drew ?_ | refine Ext.setRow ?_ (by first | (dsimp only; omega) | exact LeS.le | exact LeS.add _ | (simp; done) | (simp; omega)) _ | refine Ext.setCell ?_ (by first | (dsimp only; omega) | exact LeS.le | exact LeS.add _ | (simp; done) | (simp; omega)) _)) (by rfl) (by rfl) (by decide) (by go_simp) (by rfl) (oneIs _) (by have := Hle.out; simp at this ⊢; omega) (by have := Hle.out; simp at this ⊢; omega) ?_; intro v1 z1 hown1))))
        have hown2 := Lib.hid hown1; clear hown1
        go_wp2_with fail
        go_roundw
        case rel => exact ⟨k + 1, by go_num, by omega, (.of (by repeat (first | (with_reducible exact Ext.refl _) | (with_reducible refine Ext.up ?_ _) | (with_reducible refine Ext.alloc ?_ _) | (with_reducible refine Ext.drew ?_) | (with_reducible refine Ext.setRow ?_ (by first | exact LeS.le | exact LeS.add _ | (simp; done) | (simp; omega)) _) | (with_reducible refine Ext.setCell ?_ (by first | exact LeS.le | exact LeS.add _ | (simp; done) | (simp; omega)) _)))), by rw [Hx.out, ← List.append_assoc]; exact hown2.out⟩
        case measure => simp [intOf]; omega
      · obtain rfl : k = r.length := by omega
        rw [List.take_length] at Hown
        go_wp2_with fail
        go_loopw [3, 5] (fun s3 s4 wr => ∃ k : Nat, s4 = .int .i64 k ∧ k ≤ u.length ∧ Up (w.alloc (.cells #[.bool false, .slice p1 r.length c1, .slice p2 u.length c2] 62)) wr ∧ Own encI 3 1 (w.alloc (.cells #[.bool false, .slice p1 r.length c1, .slice p2 u.length c2] 62)).heap.size wr s3 ([0, (r.length : Int)] ++ entNums r ++ entNums (u.take k))) (fun _ s4 _ => u.length - (intOf s4).toNat)
        case atStart => exact ⟨0, rfl, Nat.zero_le _, ⟨z, rfl⟩, by simpa [entNums] using Hown.out⟩
        case round =>
          obtain ⟨k, rfl, hk, ⟨z, rfl⟩, hown⟩ := hrel
          have Hown := Lib.hid hown; clear hown
          by_cases hlt : k < u.length
          · obtain ⟨x, hxk⟩ := getElem?_some_of_lt hlt
            obtain ⟨b, off, rfl, hb, hcc⟩ := hcu k x hxk
            have e0 : w.cell? ⟨b, off + k * 2, none⟩ = some (.int .i64 x.k) := hcc 0 _ rfl
            have e1 : w.cell? ⟨b, off + k * 2 + 1, none⟩ = some (.int .i64 x.v) := hcc 1 _ rfl
            have k0 : (0 : Int) ≤ (k : Int) := by omega
            have k1 : (k : Int) < u.length := by omega
            have Hx := Lib.hid (entNums_snoc hxk)
            have hle : ([0, (r.length : Int)] ++ entNums r ++ entNums (u.take k)).length ≤ 10000 := by simp only [List.length_append, entNums_length, List.length_take, List.length_cons, List.length_nil]; omega
            have Hle := Lib.hid hle
            clear hcr hcu hxk hle hcc
            go_wp2_with fail
            (go_region_held3 (fun w' => (∀ n i, ∀ [LtS n (w.alloc (.cells #[.bool false, .slice p1 r.length c1, .slice (some ⟨b, off, none⟩) u.length c2] 62))], w'.cell? ⟨n, i, none⟩ = World.cell? (w.alloc (.cells #[.bool false, .slice p1 r.length c1, .slice (some ⟨b, off, none⟩) u.length c2] 62)) ⟨n, i, none⟩) ∧ Ext (w.alloc (.cells #[.bool false, .slice p1 r.length c1, .slice (some ⟨b, off, none⟩) u.length c2] 62)) w') ((refine S_of_ext ?_; (repeat (first | exact Ext.refl _ | refine Ext.up ?_ _ | refine Ext.alloc ?_ _ | refine Ext.drew ?_ | refine Ext.setRow ?_ (by first | (dsimp only; omega) | exact LeS.le | exact LeS.add _ | (simp; done) | (simp; omega)) _ | refine Ext.setCell ?_ (by first | (dsimp only; omega) | exact LeS.le | exact LeS.add _ | (simp; done) | (simp; omega)) _)); done)) (((refine step_pushL fI (by rfl) (.tmp 43) (.tmp 56) (by rfl) encI encI_length _ [x.k, x.v] ([0, (r.length : Int)] ++ entNums r ++ entNums (u.take k)) (by rfl) (Hown.out.up (by repeat (first | exact Ext.refl _ | refine Ext.up ?_ _ | refine Ext.alloc ?_ _ | refine Ext.drew ?_ | refine Ext.setRow ?_ (by first | (dsimp only; omega) | exact LeS.le | exact LeS.add _ | (simp; done) | (simp; omega)) _ | refine Ext.setCell ?_ (by first | (dsimp only; omega) | exact LeS.le | exact LeS.add _ | (simp; done) | (simp; omega)) _))) (by repeat (first | exact Ext.refl _ | refine Ext.up ?_ _ | refine Ext.alloc ?_ _ | refine Ext.drew ?_ | refine Ext.setRow ?_ (by first | (dsimp only; omega) | exact LeS.le | exact LeS.add _ | (simp; done) | (simp; omega)) _ | refine Ext.setCell ?_ (by first | (dsimp only; omega) | exact LeS.le | exact LeS.add _ | (simp; done) | (simp; omega)) _)) (by rfl) (by rfl) (by decide) (by go_simp) (by rfl) (oneIs _) (by have := Hle.out; simp at this ⊢; omega) (by have := Hle.out; simp at this ⊢; omega) ?_; intro v1 z1 hown1))))
            have hown2 := Lib.hid hown1; clear hown1
            go_wp2_with fail
            go_roundw
            case rel => exact ⟨k + 1, by go_num, by omega, (.of (by repeat (first | (with_reducible exact Ext.refl _) | (with_reducible refine Ext.up ?_ _) | (with_reducible refine Ext.alloc ?_ _) | (with_reducible refine Ext.drew ?_) | (with_reducible refine Ext.setRow ?_ (by first | exact LeS.le | exact LeS.add _ | (simp; done) | (simp; omega)) _) | (with_reducible refine Ext.setCell ?_ (by first | exact LeS.le | exact LeS.add _ | (simp; done) | (simp; omega)) _)))), by rw [Hx.out, ← List.append_assoc]; exact hown2.out⟩
            case measure => simp [intOf]; omega
          · obtain rfl : k = u.length := by omega
            rw [List.take_length] at Hown
            clear hcr hcu
            go_wp2_with (go_at_call 116; refine (sSumOf_any 3 _ _ _ (Hown.out.sl encI_length)).mono ?_; rintro e w' ⟨rfl, rfl⟩)
            go_ret
            exact ⟨rfl, (.of (by repeat (first | (with_reducible exact Ext.refl _) | (with_reducible refine Ext.up ?_ _) | (with_reducible refine Ext.alloc ?_ _) | (with_reducible refine Ext.drew ?_) | (with_reducible refine Ext.setRow ?_ (by first | exact LeS.le | exact LeS.add _ | (simp; done) | (simp; omega)) _) | (with_reducible refine Ext.setCell ?_ (by first | exact LeS.le | exact LeS.add _ | (simp; done) | (simp; omega)) _))))⟩
  · go_wp2_with fail
    go_loopw [3, 4] (fun s3 s4 wr => ∃ k : Nat, s4 = .int .i64 k ∧ k ≤ r.length ∧ Up (w.alloc (.cells #[.bool true, .slice p1 r.length c1, .slice p2 u.length c2] 62)) wr ∧ Own encI 3 1 (w.alloc (.cells #[.bool true, .slice p1 r.length c1, .slice p2 u.length c2] 62)).heap.size wr s3 ([1, (r.length : Int)] ++ entNums (r.take k))) (fun _ s4 _ => r.length - (intOf s4).toNat)
    case atStart => exact ⟨0, rfl, Nat.zero_le _, (.of (by repeat (first | (with_reducible exact Ext.refl _) | (with_reducible refine Ext.up ?_ _) | (with_reducible refine Ext.alloc ?_ _) | (with_reducible refine Ext.drew ?_) | (with_reducible refine Ext.setRow ?_ (by first | exact LeS.le | exact LeS.add _ | (simp; done) | (simp; omega)) _) | (with_reducible refine Ext.setCell ?_ (by first | exact LeS.le | exact LeS.add _ | (simp; done) | (simp; omega)) _)))), by simpa [entNums] using (Own.lit (lo := (w.alloc (.cells #[.bool true, .slice p1 r.length c1, .slice p2 u.length c2] 62)).heap.size) rfl (Nat.le_refl _) rfl rfl encI_length (by simp) : Own encI 3 1 (w.alloc (.cells #[.bool true, .slice p1 r.length c1, .slice p2 u.length c2] 62)).heap.size ((w.alloc (.cells #[.bool true, .slice p1 r.length c1, .slice p2 u.length c2] 62)).alloc (.cells #[.int .i64 1, .int .i64 r.length] 3)) (.slice (some ⟨(w.alloc (.cells #[.bool true, .slice p1 r.length c1, .slice p2 u.length c2] 62)).heap.size, 0, none⟩) 2 2) [1, (r.length : Int)])⟩
    case round =>
      obtain ⟨k, rfl, hk, ⟨z, rfl⟩, hown⟩ := hrel
      have Hown := Lib.hid hown; clear hown
      by_cases hlt : k < r.length
      · obtain ⟨x, hxk⟩ := getElem?_some_of_lt hlt
        obtain ⟨b, off, rfl, hb, hcc⟩ := hcr k x hxk
        have e0 : w.cell? ⟨b, off + k * 2, none⟩ = some (.int .i64 x.k) := hcc 0 _ rfl
        have e1 : w.cell? ⟨b, off + k * 2 + 1, none⟩ = some (.int .i64 x.v) := hcc 1 _ rfl
        have k0 : (0 : Int) ≤ (k : Int) := by omega
        have k1 : (k : Int) < r.length := by omega
        have Hx := Lib.hid (entNums_snoc hxk)
        have hle : ([1, (r.length : Int)] ++ entNums (r.take k)).length ≤ 10000 := by simp only [List.length_append, entNums_length, List.length_take, List.length_cons, List.length_nil]; omega
        have Hle := Lib.hid hle
        clear hcr hcu hxk hle hcc
        go_wp2_with fail
        (go_region_held3 (fun w' => (∀ n i, ∀ [LtS n (w.alloc (.cells #[.bool true, .slice (some ⟨b, off, none⟩) r.length c1, .slice p2 u.length c2] 62))], w'.cell? ⟨n, i, none⟩ = World.cell? (w.alloc (.cells #[.bool true, .slice (some ⟨b, off, none⟩) r.length c1, .slice p2 u.length c2] 62)) ⟨n, i, none⟩) ∧ Ext (w.alloc (.cells #[.bool true, .slice (some ⟨b, off, none⟩) r.length c1, .slice p2 u.length c2] 62)) w') ((refine S_of_ext ?_; (repeat (first | exact Ext.refl _ | refine Ext.up ?_ _ | refine Ext.alloc ?_ _ | refine Ext.drew ?_ | refine Ext.setRow ?_ (by first | (dsimp only; omega) | exact LeS.le | exact LeS.add _ | (simp; done) | (simp; omega)) _ | refine Ext.setCell ?_ (by first | (dsimp only; omega) | exact LeS.le | exact LeS.add _ | (simp; done) | (simp; omega)) _)); done)) (((refine step_pushL fI (by rfl) (.tmp 21) (.tmp 34) (by rfl) encI encI_length _ [x.k, x.v] ([1, (r.length : Int)] ++ entNums (r.take k)) (by rfl) (Hown.out.up (by repeat (first | exact Ext.refl _ | refine Ext.up ?_ _ | refine Ext.alloc ?_ _ | refine Ext.drew ?_ | refine Ext.setRow ?_ (by first | (dsimp only; omega) | exact LeS.le | exact LeS.add _ | (simp; done) | (simp; omega)) _ | refine Ext.setCell ?_ (by first | (dsimp only; omega) | exact LeS.le | exact LeS.add _ | (simp; done) | (simp; omega)) _))) (by repeat (first | exact Ext.refl _ | refine Ext.up ?_ _ | refine Ext.alloc ?_ _ | refine Ext.drew ?_ | refine Ext.setRow ?_ (by first | (dsimp only; omega) | exact LeS.le | exact LeS.add _ | (simp; done) | (simp; omega)) _ | refine Ext.setCell ?_ (by first | (dsimp only; omega) | exact LeS.le | exact LeS.add _ | (simp; done) | (simp; omega)) _)) (by rfl) (by rfl) (by decide) (by go_simp) (by rfl) (oneIs _) (by have := Hle.out; simp at this ⊢; omega) (by have := Hle.out; simp at this ⊢; omega) ?_; intro v1 z1 hown1))))
        have hown2 := Lib.hid hown1; clear hown1
        go_wp2_with fail
        go_roundw
        case rel => exact ⟨k + 1, by go_num, by omega, (.of (by repeat (first | (with_reducible exact Ext.refl _) | (with_reducible refine Ext.up ?_ _) | (with_reducible refine Ext.alloc ?_ _) | (with_reducible refine Ext.drew ?_) | (with_reducible refine Ext.setRow ?_ (by first | exact LeS.le | exact LeS.add _ | (simp; done) | (simp; omega)) _) | (with_reducible refine Ext.setCell ?_ (by first | exact LeS.le | exact LeS.add _ | (simp; done) | (simp; omega)) _)))), by rw [Hx.out, ← List.append_assoc]; exact hown2.out⟩
        case measure => simp [intOf]; omega
      · obtain rfl : k = r.length := by omega
        rw [List.take_length] at Hown
        go_wp2_with fail
        go_loopw [3, 5] (fun s3 s4 wr => ∃ k : Nat, s4 = .int .i64 k ∧ k ≤ u.length ∧ Up (w.alloc (.cells #[.bool true, .slice p1 r.length c1, .slice p2 u.length c2] 62)) wr ∧ Own encI 3 1 (w.alloc (.cells #[.bool true, .slice p1 r.length c1, .slice p2 u.length c2] 62)).heap.size wr s3 ([1, (r.length : Int)] ++ entNums r ++ entNums (u.take k))) (fun _ s4 _ => u.length - (intOf s4).toNat)
        case atStart => exact ⟨0, rfl, Nat.zero_le _, ⟨z, rfl⟩, by simpa [entNums] using Hown.out⟩
        case round =>
          obtain ⟨k, rfl, hk, ⟨z, rfl⟩, hown⟩ := hrel
          have Hown := Lib.hid hown; clear hown
          by_cases hlt : k < u.length
          · obtain ⟨x, hxk⟩ := getElem?_some_of_lt hlt
            obtain ⟨b, off, rfl, hb, hcc⟩ := hcu k x hxk
            have e0 : w.cell? ⟨b, off + k * 2, none⟩ = some (.int .i64 x.k) := hcc 0 _ rfl
            have e1 : w.cell? ⟨b, off + k * 2 + 1, none⟩ = some (.int .i64 x.v) := hcc 1 _ rfl
            have k0 : (0 : Int) ≤ (k : Int) := by omega
            have k1 : (k : Int) < u.length := by omega
            have Hx := Lib.hid (entNums_snoc hxk)
            have hle : ([1, (r.length : Int)] ++ entNums r ++ entNums (u.take k)).length ≤ 10000 := by simp only [List.length_append, entNums_length, List.length_take, List.length_cons, List.length_nil]; omega
            have Hle := Lib.hid hle
            clear hcr hcu hxk hle hcc
            go_wp2_with fail
            (go_region_held3 (fun w' => (∀ n i, ∀ [LtS n (w.alloc (.cells #[.bool true, .slice p1 r.length c1, .slice (some ⟨b, off, none⟩) u.length c2] 62))], w'.cell? ⟨n, i, none⟩ = World.cell? (w.alloc (.cells #[.bool true, .slice p1 r.length c1, .slice (some ⟨b, off, none⟩) u.length c2] 62)) ⟨n, i, none⟩) ∧ Ext (w.alloc (.cells #[.bool true, .slice p1 r.length c1, .slice (some ⟨b, off, none⟩) u.length c2] 62)) w') ((refine S_of_ext ?_; (repeat (first | exact Ext.refl _ | refine Ext.up ?_ _ | refine Ext.alloc ?_ _ | refine Ext.drew ?_ | refine Ext.setRow ?_ (by first | (dsimp only; omega) | exact LeS.le | exact LeS.add _ | (simp; done) | (simp; omega)) _ | refine Ext.setCell ?_ (by first | (dsimp only; omega) | exact LeS.le | exact LeS.add _ | (simp; done) | (simp; omega)) _)); done)) (((refine step_pushL fI (by rfl) (.tmp 43) (.tmp 56) (by rfl) encI encI_length _ [x.k, x.v] ([1, (r.length : Int)] ++ entNums r ++ entNums (u.take k)) (by rfl) (Hown.out.up (by repeat (first | exact Ext.refl _ | refine Ext.up ?_ _ | refine Ext.alloc ?_ _ | refine Ext.drew ?_ | refine Ext.setRow ?_ (by first | (dsimp only; omega) | exact LeS.le | exact LeS.add _ | (simp; done) | (simp; omega)) _ | refine Ext.setCell ?_ (by first | (dsimp only; omega) | exact LeS.le | exact LeS.add _ | (simp; done) | (simp; omega)) _))) (by repeat (first | exact Ext.refl _ | refine Ext.up ?_ _ | refine Ext.alloc ?_ _ | refine Ext.drew ?_ | refine Ext.setRow ?_ (by first | (dsimp only; omega) | exact LeS.le | exact LeS.add _ | (simp; done) | (simp; omega)) _ | refine Ext.setCell ?_ (by first | (dsimp only; omega) | exact LeS.le | exact LeS.add _ | (simp; done) | (simp; omega)) _)) (by rfl) (by rfl) (by decide) (by go_simp) (by rfl) (oneIs _) (by have := Hle.out; simp at this ⊢; omega) (by have := Hle.out; simp at this ⊢; omega) ?_; intro v1 z1 hown1))))
            have hown2 := Lib.hid hown1; clear hown1
            go_wp2_with fail
            go_roundw
            case rel => exact ⟨k + 1, by go_num, by omega, (.of (by repeat (first | (with_reducible exact Ext.refl _) | (with_reducible refine Ext.up ?_ _) | (with_reducible refine Ext.alloc ?_ _) | (with_reducible refine Ext.drew ?_) | (with_reducible refine Ext.setRow ?_ (by first | exact LeS.le | exact LeS.add _ | (simp; done) | (simp; omega)) _) | (with_reducible refine Ext.setCell ?_ (by first | exact LeS.le | exact LeS.add _ | (simp; done) | (simp; omega)) _)))), by rw [Hx.out, ← List.append_assoc]; exact hown2.out⟩
            case measure => simp [intOf]; omega
          · obtain rfl : k = u.length := by omega
            rw [List.take_length] at Hown
            clear hcr hcu
            go_wp2_with (go_at_call 116; refine (sSumOf_any 3 _ _ _ (Hown.out.sl encI_length)).mono ?_; rintro e w' ⟨rfl, rfl⟩)
            go_ret
            exact ⟨rfl, (.of (by repeat (first | (with_reducible exact Ext.refl _) | (with_reducible refine Ext.up ?_ _) | (with_reducible refine Ext.alloc ?_ _) | (with_reducible refine Ext.drew ?_) | (with_reducible refine Ext.setRow ?_ (by first | exact LeS.le | exact LeS.add _ | (simp; done) | (simp; omega)) _) | (with_reducible refine Ext.setCell ?_ (by first | exact LeS.le | exact LeS.add _ | (simp; done) | (simp; omega)) _))))⟩
set_option maxRecDepth 100000 in
set_option maxHeartbeats 2000000 in
theorem sEffectsSum_any (es : List Eff) (v : Value) (w : World) (h : SE w v es) (hl : es.length ≤ 1000) (hs : ∀ x ∈ es, x.r.length ≤ 1000 ∧ x.w.length ≤ 1000) :
    Calls Tryz.prog 82 #[v] w fun e w' => e = .returned (.int .i64 (effsSum es)) ∧ Up w w' := by
  obtain ⟨p, c, rfl, _, _, hc⟩ := h.open
  clear h
  have Hs := Lib.hid hs; clear hs
  go_enter Tryz.func82, Tryz.ntmps82
  go_wp2_with fail
  go_loopw [3, 4] (fun s3 s4 wr => ∃ k : Nat, s4 = .int .i64 k ∧ k ≤ es.length ∧ Up w wr ∧ Own encI 3 1 w.heap.size wr s3 ((es.take k).map effSum)) (fun _ s4 _ => es.length - (intOf s4).toNat)
  case atStart => exact ⟨0, rfl, Nat.zero_le _, (.of (by repeat (first | (with_reducible exact Ext.refl _) | (with_reducible refine Ext.up ?_ _) | (with_reducible refine Ext.alloc ?_ _) | (with_reducible refine Ext.drew ?_) | (with_reducible refine Ext.setRow ?_ (by first | exact LeS.le | exact LeS.add _ | (simp; done) | (simp; omega)) _) | (with_reducible refine Ext.setCell ?_ (by first | exact LeS.le | exact LeS.add _ | (simp; done) | (simp; omega)) _)))), Own.lit rfl (Nat.le_refl _) rfl rfl encI_length (by simp)⟩
  case round =>
    obtain ⟨k, rfl, hk, ⟨z, rfl⟩, hown⟩ := hrel
    have Hown := Lib.hid hown; clear hown
    have hlk : ((es.take k).map effSum).length ≤ 1000 := by rw [List.length_map, List.length_take]; omega
    by_cases hlt : k < es.length
    · obtain ⟨x, hxk⟩ := getElem?_some_of_lt hlt
      obtain ⟨b, off, q1, d1, q2, d2, rfl, hb, e0, e1, e2, s1, s2⟩ := hc k x hxk
      obtain ⟨l1, l2⟩ := Hs.out x (List.mem_of_getElem? hxk)
      have S1 := Lib.hid s1; have S2 := Lib.hid s2; have Hx := Lib.hid (effSums_snoc hxk)
      have k0 : (0 : Int) ≤ (k : Int) := by omega
      have k1 : (k : Int) < es.length := by omega
      clear hc hxk s1 s2
      go_wp2_with (first | (go_at_call 115; refine (sEffectSum_any x.d _ _ x.r x.w _ (S1.out.up (by repeat (first | (with_reducible exact Ext.refl _) | (with_reducible refine Ext.up ?_ _) | (with_reducible refine Ext.alloc ?_ _) | (with_reducible refine Ext.drew ?_) | (with_reducible refine Ext.setRow ?_ (by first | exact LeS.le | exact LeS.add _ | (simp; done) | (simp; omega)) _) | (with_reducible refine Ext.setCell ?_ (by first | exact LeS.le | exact LeS.add _ | (simp; done) | (simp; omega)) _)))) (S2.out.up (by repeat (first | (with_reducible exact Ext.refl _) | (with_reducible refine Ext.up ?_ _) | (with_reducible refine Ext.alloc ?_ _) | (with_reducible refine Ext.drew ?_) | (with_reducible refine Ext.setRow ?_ (by first | exact LeS.le | exact LeS.add _ | (simp; done) | (simp; omega)) _) | (with_reducible refine Ext.setCell ?_ (by first | exact LeS.le | exact LeS.add _ | (simp; done) | (simp; omega)) _)))) l1 l2).mono ?_; rintro e w' ⟨rfl, z1, rfl⟩) | (at_builtin; refine wpList_push1 fI rfl (.tmp 12) (.tmp 18) rfl encI w (effSum x) ((es.take k).map effSum) rfl (Hown.out.up (by repeat (first | (with_reducible exact Ext.refl _) | (with_reducible refine Ext.up ?_ _) | (with_reducible refine Ext.alloc ?_ _) | (with_reducible refine Ext.drew ?_) | (with_reducible refine Ext.setRow ?_ (by first | exact LeS.le | exact LeS.add _ | (simp; done) | (simp; omega)) _) | (with_reducible refine Ext.setCell ?_ (by first | exact LeS.le | exact LeS.add _ | (simp; done) | (simp; omega)) _)))) (by repeat (first | (with_reducible exact Ext.refl _) | (with_reducible refine Ext.up ?_ _) | (with_reducible refine Ext.alloc ?_ _) | (with_reducible refine Ext.drew ?_) | (with_reducible refine Ext.setRow ?_ (by first | exact LeS.le | exact LeS.add _ | (simp; done) | (simp; omega)) _) | (with_reducible refine Ext.setCell ?_ (by first | exact LeS.le | exact LeS.add _ | (simp; done) | (simp; omega)) _))) rfl (by go_simp) rfl rfl (oneI _) (by omega) (by omega) ?_; intro v7 z7 o7))
      have O7 := Lib.hid o7; clear o7
      go_wp2_with fail
      go_roundw
      case rel => exact ⟨k + 1, by go_num, by omega, (.of (by repeat (first | (with_reducible exact Ext.refl _) | (with_reducible refine Ext.up ?_ _) | (with_reducible refine Ext.alloc ?_ _) | (with_reducible refine Ext.drew ?_) | (with_reducible refine Ext.setRow ?_ (by first | exact LeS.le | exact LeS.add _ | (simp; done) | (simp; omega)) _) | (with_reducible refine Ext.setCell ?_ (by first | exact LeS.le | exact LeS.add _ | (simp; done) | (simp; omega)) _)))), by rw [Hx.out]; exact O7.out⟩
      case measure => simp [intOf]; omega
    · obtain rfl : k = es.length := by omega
      rw [List.take_length] at Hown
      clear hc
      by_cases h10 : es.length ≤ 10
      · have hq : decide ((10 : Int) < es.length) = false := by simp; omega
        have he : effsSum es = sumOf 4 (es.map effSum) := by unfold effsSum; rw [if_pos h10]
        go_wp2_with (go_at_call 116; refine (sSumOf_any 4 _ _ _ (Hown.out.sl encI_length)).mono ?_; rintro e w' ⟨rfl, rfl⟩)
        go_ret
        exact ⟨by rw [he]; rfl, (.of (by repeat (first | (with_reducible exact Ext.refl _) | (with_reducible refine Ext.up ?_ _) | (with_reducible refine Ext.alloc ?_ _) | (with_reducible refine Ext.drew ?_) | (with_reducible refine Ext.setRow ?_ (by first | exact LeS.le | exact LeS.add _ | (simp; done) | (simp; omega)) _) | (with_reducible refine Ext.setCell ?_ (by first | exact LeS.le | exact LeS.add _ | (simp; done) | (simp; omega)) _))))⟩
      · have hq : decide ((10 : Int) < es.length) = true := by simp; omega
        have he : effsSum es = -1 := by unfold effsSum; rw [if_neg h10]
        go_wp2_with fail
        go_ret
        exact ⟨by rw [he]; rfl, (.of (by repeat (first | (with_reducible exact Ext.refl _) | (with_reducible refine Ext.up ?_ _) | (with_reducible refine Ext.alloc ?_ _) | (with_reducible refine Ext.drew ?_) | (with_reducible refine Ext.setRow ?_ (by first | exact LeS.le | exact LeS.add _ | (simp; done) | (simp; omega)) _) | (with_reducible refine Ext.setCell ?_ (by first | exact LeS.le | exact LeS.add _ | (simp; done) | (simp; omega)) _))))⟩
end Go.Proofs.YteiemjebdhmnaaaGreat
namespace Go.Proofs.YteiemjebdhmnaaaGreat
open Go Go.RowKit Go.Proofs

def blkRight (b : Blk) (l : List Actn) (s : List Ent) : Bool := b.okL l && (entsOk 1 s && (decide (b.rt = rootOf (storeOf (runAll (valsOf s) l).1)) && decide (b.ef = effsSum (runAll (valsOf s) l).2)))
theorem blkRight_no1 {b : Blk} {l : List Actn} {s : List Ent} (h : b.okL l = false) : blkRight b l s = false := by unfold blkRight; rw [h]; rfl
theorem blkRight_no2 {b : Blk} {l : List Actn} {s : List Ent} (h : b.okL l = true) (h2 : entsOk 1 s = false) : blkRight b l s = false := by unfold blkRight; rw [h, h2]; rfl
theorem blkRight_yes {b : Blk} {l : List Actn} {s : List Ent} (h : b.okL l = true) (h2 : entsOk 1 s = true) : blkRight b l s = (decide (b.rt = rootOf (storeOf (runAll (valsOf s) l).1)) && decide (b.ef = effsSum (runAll (valsOf s) l).2)) := by unfold blkRight; rw [h, h2]; rfl
theorem okL_acts {b : Blk} {l : List Actn} (h : b.okL l = true) : actsOk l = true := by
  simp only [Blk.okL, Bool.and_eq_true] at h
  simp_all
end Go.Proofs.YteiemjebdhmnaaaGreat
namespace Go.Proofs.YteiemjebdhmnaaaGreat
open Go Go.RowKit Go.Proofs

def marksB (k : Int) (n : Nat) : List Bool := (List.range n).map fun i : Nat => ((k + (i : Int)) % 3 == 0)
theorem marksB_length (k : Int) (n : Nat) : (marksB k n).length = n := by simp [marksB]
theorem marksB_get {k : Int} {n i : Nat} (h : i < n) : (marksB k n)[i]? = some ((k + (i : Int)) % 3 == 0) := by simp [marksB, h]
end Go.Proofs.YteiemjebdhmnaaaGreat
namespace Go.Proofs.YteiemjebdhmnaaaGreat
open Go Go.RowKit Go.Proofs

def prAt (t : Tree) (n : Nat) : Int := t.pr.getD n 0
/-- The store ahead of a block. -/
def frontS (t : Tree) (n : Nat) : List Ent := if n = 0 then t.base else storeR t (prAt t n)
def frontV (t : Tree) (n : Nat) : List Int := if n = 0 then valsOf t.base else aftV t (prAt t n)
def rightAt (t : Tree) (out : List Bool) (n : Nat) : Bool := match t.bs[n]? with
  | none => false
  | some y => blkRight y.1 y.2 (frontS t n) && (decide (n = 0) || out.getD (prAt t n).toNat false)
def rightsTo (t : Tree) : Nat → List Bool
  | 0 => []
  | k + 1 => rightsTo t k ++ [rightAt t (rightsTo t k) k]
def rightsR (t : Tree) : List Bool := if t.ok = true then rightsTo t t.bs.length else []
theorem oneB (x : Bool) : ∀ u ∈ encB x, u.oneCell' = true := by simp [encB, Value.oneCell']
theorem rightsTo_len (t : Tree) : ∀ k, (rightsTo t k).length = k
  | 0 => rfl
  | k + 1 => by rw [rightsTo, List.length_append, rightsTo_len t k]; rfl
theorem rightsR_le (t : Tree) : (rightsR t).length ≤ t.bs.length := by unfold rightsR; split; rw [rightsTo_len]; exact Nat.le_refl _; simp
theorem rightAt_eq {t : Tree} {out : List Bool} {n : Nat} {y : BL} (h : t.bs[n]? = some y) : rightAt t out n = (blkRight y.1 y.2 (frontS t n) && (decide (n = 0) || out.getD (prAt t n).toNat false)) := by unfold rightAt; rw [h]
theorem frontV_len (t : Tree) (n : Nat) : (frontV t n).length = 32 := by unfold frontV; split; exact valsOf_length _; exact aftL_len _ _
/-- The one before a block that is not the first. -/
theorem link_at {t : Tree} (h : t.ok = true) {n : Nat} (h0 : n ≠ 0) (hn : n < t.bs.length) : ∃ m : Nat, t.pr[n]? = some (m : Int) ∧ prAt t n = (m : Int) ∧ m < n ∧ hasN t (m : Int) = true := by
  obtain ⟨x, hx⟩ := getElem?_some_of_lt hn
  obtain ⟨m, y, h1, h2, h3, _⟩ := Tree.link h hx (by omega)
  refine ⟨m, h1, by unfold prAt; simp [List.getD, h1], h2, hasN_iff.2 ⟨by omega, by omega⟩⟩
theorem frontS_V {t : Tree} (h : t.ok = true) {n : Nat} (hn : n < t.bs.length) : storeOf (frontV t n) = frontS t n := by
  unfold frontV frontS
  by_cases h0 : n = 0
  · rw [if_pos h0, if_pos h0]; exact storeOf_valsOf (base_ok h)
  · rw [if_neg h0, if_neg h0]
    obtain ⟨m, _, hm, _, hN⟩ := link_at h h0 hn
    rw [hm, storeR_yes h hN]
set_option maxRecDepth 100000 in
set_option maxHeartbeats 1000000 in
theorem ahead_any (t : Tree) (v0 v1 v2 : Value) (n : Nat) (w : World) (h : ST w v0 v1 v2 t) (ho : t.ok = true) (hn : n < t.bs.length) :
    Calls Tryz.prog 26 #[.agg #[v0, v1, v2], .int .i64 n] w fun e w' => e = .returned (.agg (vA (frontV t n))) ∧ Up w w' := by
  obtain ⟨p0, c0, rfl, _, _⟩ := h.base.openc
  obtain ⟨p1, c1, rfl, _, _⟩ := h.bs.openc
  obtain ⟨p2, c2, rfl, hlp, hcp⟩ := h.pr.open
  have HB := Lib.hid h.base; have H := Lib.hid h
  have hbok := Lib.hid (base_ok ho)
  by_cases h0 : n = 0
  · subst h0
    have hf : frontV t 0 = valsOf t.base := rfl
    rw [hf]
    have hvl := valsOf_length t.base
    clear h hcp ho hf
    go_enter Tryz.func26, Tryz.ntmps26
    go_wp2_with fail
    (with_reducible refine (valuesOf_any 1 t.base (.slice p0 t.base.length c0) _ (HB.out.up (by repeat (first | (with_reducible exact Ext.refl _) | (with_reducible refine Ext.up ?_ _) | (with_reducible refine Ext.alloc ?_ _) | (with_reducible refine Ext.drew ?_) | (with_reducible refine Ext.setRow ?_ (by first | exact LeS.le | exact LeS.add _ | (simp; done) | (simp; omega)) _) | (with_reducible refine Ext.setCell ?_ (by first | exact LeS.le | exact LeS.add _ | (simp; done) | (simp; omega)) _)))) hbok.out).mono ?_); rintro e w' ⟨rfl, z3, rfl⟩
    have r1 : Row 56 z3.val (w.heap.size + 1) zeros := (Row.of_eq (heap_alloc2_new _ _ _) vA_zeros.symm : Row 56 _ (w.heap.size + 1) zeros).up z3.ext
    have RZ := Lib.hid r1
    have EZ := Lib.hid (show Ext w z3.val from (by repeat (first | (with_reducible exact Ext.refl _) | (with_reducible refine Ext.up ?_ _) | (with_reducible refine Ext.alloc ?_ _) | (with_reducible refine Ext.drew ?_) | (with_reducible refine Ext.setRow ?_ (by first | exact LeS.le | exact LeS.add _ | (simp; done) | (simp; omega)) _) | (with_reducible refine Ext.setCell ?_ (by first | exact LeS.le | exact LeS.add _ | (simp; done) | (simp; omega)) _))))
    clear r1
    go_wp2_with (refine wpList_store_row rfl _ _ _ rfl _ _ rfl rfl _ _ RZ.out.eq (by rw [vA_size, hvl]; exact Tryz.sVals) (by rw [vA_size, vA_size, hvl, zeros_length]) (vA_one _) ?_)
    refine bodyPost_ret (results_cell_row (p := 4) (by kernel_rfl) _ _ (w.heap.size + 1) _ (vA (valsOf t.base)) (0, 0) _ rfl (RZ.out.setRow _).eq Tryz.underlying56 rfl (by rw [vA_size, hvl]; exact Tryz.sVals)) rfl ⟨rfl, .of (EZ.out.setRow (by omega) _)⟩
  · obtain ⟨m, hm, hpa, hmn, hN⟩ := link_at ho h0 hn
    obtain ⟨b, off, rfl, hb, hcc⟩ := hcp n _ hm
    have e0 : w.cell? ⟨b, off + n, none⟩ = some (.int .i64 m) := by have := hcc 0 _ rfl; simpa using this
    have hf : frontV t n = aftV t (m : Int) := by unfold frontV; rw [if_neg h0, hpa]
    rw [hf]
    have ka := fun w h => after_any t (.slice p0 t.base.length c0) (.slice p1 t.bs.length c1) (.slice (some ⟨b, off, none⟩) t.pr.length c2) (m : Int) w h ho hN
    have hal : (aftV t (m : Int)).length = 32 := aftL_len _ _
    have hpl := (Tree.lens ho).1
    have n0 : (0 : Int) ≤ (n : Int) := by omega
    have n1 : (n : Int) < t.pr.length := by omega
    have n2 : ((n : Int) == 0) = false := by rw [beq_eq_false_iff_ne]; omega
    generalize aftV t (m : Int) = AV at *
    clear h hcp ho hf hcc hm hpa hN h0 hpl
    go_enter Tryz.func26, Tryz.ntmps26
    go_wp2_with fail
    refine wp_named ?_; intro W2 hW2
    have hE : Ext w W2 := by rw [hW2]; exact (by repeat (first | (with_reducible exact Ext.refl _) | (with_reducible refine Ext.up ?_ _) | (with_reducible refine Ext.alloc ?_ _) | (with_reducible refine Ext.drew ?_) | (with_reducible refine Ext.setRow ?_ (by first | exact LeS.le | exact LeS.add _ | (simp; done) | (simp; omega)) _) | (with_reducible refine Ext.setCell ?_ (by first | exact LeS.le | exact LeS.add _ | (simp; done) | (simp; omega)) _)))
    have r1 : Row 56 W2 (w.heap.size + 1) zeros := by rw [hW2]; exact Row.of_eq (heap_alloc2_new _ _ _) vA_zeros.symm
    have t0 : W2.cell? ⟨w.heap.size, 0, none⟩ = some (.slice p0 t.base.length c0) := by rw [hW2]; go_simp
    have t1 : W2.cell? ⟨w.heap.size, 1, none⟩ = some (.slice p1 t.bs.length c1) := by rw [hW2]; go_simp
    have t2 : W2.cell? ⟨w.heap.size, 2, none⟩ = some (.slice (some ⟨b, off, none⟩) t.pr.length c2) := by rw [hW2]; go_simp
    have e2 : W2.cell? ⟨b, off + n, none⟩ = some (.int .i64 m) := hE.some e0
    have hL0 : LtS w.heap.size W2 := .of_some t0
    have hL1 : LtS (w.heap.size + 1) W2 := r1.lts
    have hLb : LtS b W2 := .of_some e2
    have hbl := hb.lt
    have hN0 : NeS w.heap.size (w.heap.size + 1) := ⟨by omega⟩
    have hNb : NeS b (w.heap.size + 1) := ⟨by omega⟩
    have R1 := Lib.hid r1; have HE2 := Lib.hid hE
    have HW := Lib.hid (H.out.up hE)
    clear hW2 r1 hE e0
    refine wp_region_held_drew (S := (fun w' => (∀ n i, ∀ [LtS n W2] [NeS n (w.heap.size + 1)], w'.cell? ⟨n, i, none⟩ = World.cell? W2 ⟨n, i, none⟩) ∧ World.grownBy W2 w' (some (w.heap.size + 1)))) (by kernel_rfl) ?_ (fun hHeld => ?_)
    · (try dsimp only)
      refine S_of_gb ?_
      first | (refine GB.setRow' ?_ _; (repeat (first | (with_reducible exact grownBy_refl _ _) | (with_reducible refine GB.setNew ?_ (by first | exact LeS.le | exact LeS.add _ | (simp; done) | (simp; omega)) _ _) | (with_reducible refine GB.alloc ?_ _) | (with_reducible refine GB.drew ?_) | (with_reducible refine GB.upR ?_ _) | (with_reducible refine GB.up ?_ _))); done) | ((repeat (first | (with_reducible exact grownBy_refl _ _) | (with_reducible refine GB.setNew ?_ (by first | exact LeS.le | exact LeS.add _ | (simp; done) | (simp; omega)) _ _) | (with_reducible refine GB.alloc ?_ _) | (with_reducible refine GB.drew ?_) | (with_reducible refine GB.upR ?_ _) | (with_reducible refine GB.up ?_ _))); done)
    refine wpAnyH_take (i := 0) (v := ?_) (opAt rfl) (by kernel_rfl) (by kernel_rfl) (by kernel_rfl) (fun _ _ _ h => h) (Or.inl ⟨by rfl, ?_⟩) (by assumption) ?_
    rotate_left
    · (intro w hSw; (try dsimp only at hSw); go_simp) <;> with_reducible rfl
    try simp only [Act.put, List.setIfInBounds_toArray, List.set_cons_zero, List.set_cons_succ]
    refine wpAnyH_take (i := 1) (v := ?_) (opAt rfl) (by kernel_rfl) (by kernel_rfl) (by kernel_rfl) (fun _ _ _ h => h) (Or.inl ⟨by rfl, ?_⟩) (by assumption) ?_
    rotate_left
    · (intro w hSw; (try dsimp only at hSw); go_simp) <;> with_reducible rfl
    try simp only [Act.put, List.setIfInBounds_toArray, List.set_cons_zero, List.set_cons_succ]
    refine wpAnyH_take (i := 2) (v := ?_) (opAt rfl) (by kernel_rfl) (by kernel_rfl) (by kernel_rfl) (fun _ _ _ h => h) (Or.inl ⟨by rfl, ?_⟩) (by assumption) ?_
    rotate_left
    · (intro w hSw; (try dsimp only at hSw); go_simp) <;> with_reducible rfl
    try simp only [Act.put, List.setIfInBounds_toArray, List.set_cons_zero, List.set_cons_succ]
    refine wpAnyH_take (i := 3) (v := ?_) (opAt rfl) (by kernel_rfl) (by kernel_rfl) (by kernel_rfl) (fun _ _ _ h => h) (Or.inl ⟨by rfl, ?_⟩) (by assumption) ?_
    rotate_left
    · (intro w hSw; (try dsimp only at hSw); go_simp) <;> with_reducible rfl
    try simp only [Act.put, List.setIfInBounds_toArray, List.set_cons_zero, List.set_cons_succ]
    refine wpAnyH_take (i := 4) (v := ?_) (opAt rfl) (by kernel_rfl) (by kernel_rfl) (by kernel_rfl) (fun _ _ _ h => h) (Or.inl ⟨by rfl, ?_⟩) (by assumption) ?_
    rotate_left
    · (intro w hSw; (try dsimp only at hSw); go_simp) <;> with_reducible rfl
    try simp only [Act.put, List.setIfInBounds_toArray, List.set_cons_zero, List.set_cons_succ]
    refine wpAnyH_take (i := 5) (v := ?_) (opAt rfl) (by kernel_rfl) (by kernel_rfl) (by kernel_rfl) (fun _ _ _ h => h) (Or.inl ⟨by rfl, ?_⟩) (by assumption) ?_
    rotate_left
    · (intro w hSw; (try dsimp only at hSw); go_simp) <;> with_reducible rfl
    try simp only [Act.put, List.setIfInBounds_toArray, List.set_cons_zero, List.set_cons_succ]
    refine wpAnyH_ready (rs := [6]) (by kernel_rfl) (by simp) ?_
    refine AllReadyH.cons (opAt rfl) (fun K hK => ?_) ?_
    · go_simp
      go_at_call 42
      (with_reducible refine (ka _ (HW.out.up (by repeat (first | (with_reducible exact Ext.refl _) | (with_reducible refine Ext.up ?_ _) | (with_reducible refine Ext.alloc ?_ _) | (with_reducible refine Ext.drew ?_) | (with_reducible refine Ext.setRow ?_ (by first | exact LeS.le | exact LeS.add _ | (simp; done) | (simp; omega)) _) | (with_reducible refine Ext.setCell ?_ (by first | exact LeS.le | exact LeS.add _ | (simp; done) | (simp; omega)) _))))).mono ?_)
      rintro e w' ⟨rfl, z6, rfl⟩
      try go_wp2_with fail
      refine hK.out _ _ ?_ (fun hHeld1 => ?_)
      · (try dsimp only)
        refine S_of_gb ?_
        first | (refine GB.setRow' ?_ _; (repeat (first | (with_reducible exact grownBy_refl _ _) | (with_reducible refine GB.setNew ?_ (by first | exact LeS.le | exact LeS.add _ | (simp; done) | (simp; omega)) _ _) | (with_reducible refine GB.alloc ?_ _) | (with_reducible refine GB.drew ?_) | (with_reducible refine GB.upR ?_ _) | (with_reducible refine GB.up ?_ _))); done) | ((repeat (first | (with_reducible exact grownBy_refl _ _) | (with_reducible refine GB.setNew ?_ (by first | exact LeS.le | exact LeS.add _ | (simp; done) | (simp; omega)) _ _) | (with_reducible refine GB.alloc ?_ _) | (with_reducible refine GB.drew ?_) | (with_reducible refine GB.upR ?_ _) | (with_reducible refine GB.up ?_ _))); done)
      clear hK K hHeld
      have hHeld := hHeld1; clear hHeld1
      try simp only [Act.put, List.setIfInBounds_toArray, List.set_cons_zero, List.set_cons_succ]
      refine wpAnyH_ready (rs := [7]) (by kernel_rfl) (by simp) ?_
      refine AllReadyH.cons (opAt rfl) (fun K hK => ?_) ?_
      · rw [if_pos (by rfl)]
        refine wp_store_row _ _ _ rfl _ _ rfl rfl _ _ (R1.out.up (w' := z6.val) (by repeat (first | (with_reducible exact Ext.refl _) | (with_reducible refine Ext.up ?_ _) | (with_reducible refine Ext.alloc ?_ _) | (with_reducible refine Ext.drew ?_) | (with_reducible refine Ext.setRow ?_ (by first | exact LeS.le | exact LeS.add _ | (simp; done) | (simp; omega)) _) | (with_reducible refine Ext.setCell ?_ (by first | exact LeS.le | exact LeS.add _ | (simp; done) | (simp; omega)) _)))).eq (by rw [vA_size, hal]; exact Tryz.sVals) (by rw [vA_size, vA_size, hal, zeros_length]) (vA_one _) ?_
        refine hK.out _ _ ?_ (fun hHeld1 => ?_)
        · (try dsimp only)
          refine S_of_gb ?_
          first | (refine GB.setRow' ?_ _; (repeat (first | (with_reducible exact grownBy_refl _ _) | (with_reducible refine GB.setNew ?_ (by first | exact LeS.le | exact LeS.add _ | (simp; done) | (simp; omega)) _ _) | (with_reducible refine GB.alloc ?_ _) | (with_reducible refine GB.drew ?_) | (with_reducible refine GB.upR ?_ _) | (with_reducible refine GB.up ?_ _))); done) | ((repeat (first | (with_reducible exact grownBy_refl _ _) | (with_reducible refine GB.setNew ?_ (by first | exact LeS.le | exact LeS.add _ | (simp; done) | (simp; omega)) _ _) | (with_reducible refine GB.alloc ?_ _) | (with_reducible refine GB.drew ?_) | (with_reducible refine GB.upR ?_ _) | (with_reducible refine GB.up ?_ _))); done)
        clear hK K hHeld
        have hHeld := hHeld1; clear hHeld1
        try simp only [Act.put, List.setIfInBounds_toArray, List.set_cons_zero, List.set_cons_succ]
        refine wpAnyH_done (by kernel_rfl) ?_ _
        go_wp2_with fail
        refine bodyPost_ret (results_cell_row (p := 4) (by kernel_rfl) _ _ (w.heap.size + 1) _ (vA AV) (0, 0) _ rfl ((R1.out.up (w' := z6.val) (by repeat (first | (with_reducible exact Ext.refl _) | (with_reducible refine Ext.up ?_ _) | (with_reducible refine Ext.alloc ?_ _) | (with_reducible refine Ext.drew ?_) | (with_reducible refine Ext.setRow ?_ (by first | exact LeS.le | exact LeS.add _ | (simp; done) | (simp; omega)) _) | (with_reducible refine Ext.setCell ?_ (by first | exact LeS.le | exact LeS.add _ | (simp; done) | (simp; omega)) _)))).setRow _).eq Tryz.underlying56 rfl (by rw [vA_size, hal]; exact Tryz.sVals)) rfl ⟨rfl, .of (Ext.setRow (Ext.up (HE2.out.drew) z6) (by omega) _)⟩
      exact AllReadyH.nil
    exact AllReadyH.nil
end Go.Proofs.YteiemjebdhmnaaaGreat
namespace Go.Proofs.YteiemjebdhmnaaaGreat
open Go Go.RowKit Go.Proofs

def srOk (s : List Ent) (l : List Actn) : Bool := entsOk 1 s && actsOk l
def srS (s : List Ent) (l : List Actn) : List Ent := if srOk s l = true then storeOf (runAll (valsOf s) l).1 else []
def srE (s : List Ent) (l : List Actn) : List Eff := if srOk s l = true then (runAll (valsOf s) l).2 else []
theorem sr_no {s : List Ent} {l : List Actn} (h : srOk s l = false) : srS s l = [] ∧ srE s l = [] := by unfold srS srE; rw [h]; exact ⟨rfl, rfl⟩
theorem sr_yes {s : List Ent} {l : List Actn} (h : srOk s l = true) : srS s l = storeOf (runAll (valsOf s) l).1 ∧ srE s l = (runAll (valsOf s) l).2 := by unfold srS srE; rw [h]; exact ⟨rfl, rfl⟩
end Go.Proofs.YteiemjebdhmnaaaGreat
