/- Walks: sums of effects, the reference's side. -/
import Derived.Test.YteiemjebdhmnaaaGSoTop10
import Derived.Test.YteiemjebdhmnaaaGSoTop15
set_option linter.unusedSimpArgs false
set_option linter.unusedVariables false
namespace Go.Proofs.Yteiemjebdhmnaaa
open Go Go.RowKit Go.Proofs

set_option maxRecDepth 100000 in
set_option maxHeartbeats 4000000 in
theorem sEffectSum_any (d : Bool) (vr vw : Value) (r u : List Ent) (w : World) (hr : SL (RF Ent.enc) 2 w vr r) (hu : SL (RF Ent.enc) 2 w vw u) (hrl : r.length ≤ 1000) (hul : u.length ≤ 1000) :
    Calls Try.prog 88 #[.agg #[.bool d, vr, vw]] w fun e w' => e = .returned (.int .i64 (effSum ⟨d, r, u⟩)) ∧ Up w w' := by
  obtain ⟨p1, c1, rfl, _, hcr⟩ := hr.open
  obtain ⟨p2, c2, rfl, _, hcu⟩ := hu.open
  clear hr hu
  go_enter Try.func88, Try.ntmps88
  rcases d with _ | _
  · go_wp2_with fail
    go_loopw [3, 4] (fun s3 s4 wr => ∃ k : Nat, s4 = .int .i64 k ∧ k ≤ r.length ∧ Up (w.alloc (.cells #[.bool false, .slice p1 r.length c1, .slice p2 u.length c2] 82)) wr ∧ Own encI 3 1 (w.alloc (.cells #[.bool false, .slice p1 r.length c1, .slice p2 u.length c2] 82)).heap.size wr s3 ([0, (r.length : Int)] ++ entNums (r.take k))) (fun _ s4 _ => r.length - (intOf s4).toNat)
    case atStart => exact ⟨0, rfl, Nat.zero_le _, (.of (by repeat (first | (with_reducible exact Ext.refl _) | (with_reducible refine Ext.up ?_ _) | (with_reducible refine Ext.alloc ?_ _) | (with_reducible refine Ext.drew ?_) | (with_reducible refine Ext.setRow ?_ (by first | exact LeS.le | exact LeS.add _ | (simp; done) | (simp; omega)) _) | (with_reducible refine Ext.setCell ?_ (by first | exact LeS.le | exact LeS.add _ | (simp; done) | (simp; omega)) _)))), by simpa [entNums] using (Own.lit (lo := (w.alloc (.cells #[.bool false, .slice p1 r.length c1, .slice p2 u.length c2] 82)).heap.size) rfl (Nat.le_refl _) rfl rfl encI_length (by simp) : Own encI 3 1 (w.alloc (.cells #[.bool false, .slice p1 r.length c1, .slice p2 u.length c2] 82)).heap.size ((w.alloc (.cells #[.bool false, .slice p1 r.length c1, .slice p2 u.length c2] 82)).alloc (.cells #[.int .i64 0, .int .i64 r.length] 3)) (.slice (some ⟨(w.alloc (.cells #[.bool false, .slice p1 r.length c1, .slice p2 u.length c2] 82)).heap.size, 0, none⟩) 2 2) [0, (r.length : Int)])⟩
    case round =>
      obtain ⟨k, rfl, hk, ⟨z, rfl⟩, hown⟩ := hrel
      have Hown := Lib.hid hown; clear hown
      by_cases hlt : k < r.length
      · obtain ⟨x, hxk⟩ := getElem?_some_of_lt hlt
        obtain ⟨b, off, rfl, hb, hcc⟩ := hcr k x hxk
        have e0 : w.cell? ⟨b, off + k * 2, none⟩ = some (.int .i64 x.k) := hcc 0 _ rfl
        have e1 : w.cell? ⟨b, off + k * 2 + 1, none⟩ = some (.int .i64 x.v) := hcc 1 _ rfl
        have k0 : (0 : Int) ≤ (k : Int) := by omega
        have k1 : (k : Int) < r.length := by omega
        have Hx := Lib.hid (entNums_snoc hxk)
        have hle : ([0, (r.length : Int)] ++ entNums (r.take k)).length ≤ 10000 := by simp only [List.length_append, entNums_length, List.length_take, List.length_cons, List.length_nil]; omega
        have Hle := Lib.hid hle
        clear hcr hcu hxk hle hcc
        go_wp2_with fail
        (go_region_held3 (fun w' => (∀ n i, ∀ [LtS n (w.alloc (.cells #[.bool false, .slice (some ⟨b, off, none⟩) r.length c1, .slice p2 u.length c2] 82))], w'.cell? ⟨n, i, none⟩ = World.cell? (w.alloc (.cells #[.bool false, .slice (some ⟨b, off, none⟩) r.length c1, .slice p2 u.length c2] 82)) ⟨n, i, none⟩) ∧ Ext (w.alloc (.cells #[.bool false, .slice (some ⟨b, off, none⟩) r.length c1, .slice p2 u.length c2] 82)) w') ((refine S_of_ext ?_; (repeat (first | exact Ext.refl _ | refine Ext.up ?_ _ | refine Ext.alloc ?_ _ | refine Ext.drew ?_ | refine Ext.setRow ?_ (by first | (dsimp only; omega) | exact LeS.le | exact LeS.add _ | (simp; done) | (simp; omega)) _ | refine Ext.setCell ?_ (by first | (dsimp only; omega) | exact LeS.le | exact LeS.add _ | (simp; done) | (simp; omega)) _)); done)) (((refine step_pushL fI (by rfl) (.tmp 21) (.tmp 34) (by rfl) encI encI_length _ [x.k, x.v] ([0, (r.length : Int)] ++ entNums (r.take k)) (by rfl) (Hown.out.up (by repeat (first | exact Ext.refl _ | refine Ext.up ?_ _ | refine Ext.alloc ?_ _ | refine Ext.drew ?_ | refine Ext.setRow ?_ (by first | (dsimp only; omega) | exact LeS.le | exact LeS.add _ | (simp; done) | (simp; omega)) _ | refine Ext.setCell ?_ (by first | (dsimp only; omega) | exact LeS.le | exact LeS.add _ | (simp; done) | (simp; omega)) _))) (by repeat (first | exact Ext.refl _ | refine Ext.up ?_ _ | refine Ext.alloc ?_ _ | refine Ext.drew ?_ | refine Ext.setRow ?_ (by first | (dsimp only; omega) | exact LeS.le | exact LeS.add _ | (simp; done) | (simp; omega)) _ | refine Ext.setCell ?_ (by first | (dsimp only; omega) | exact LeS.le | exact LeS.add _ | (simp; done) | (simp; omega)) _)) (by rfl) (by rfl) (by decide) (by go_simp) (by rfl) (oneIs _) (by have := Hle.out; simp at this ⊢; omega) (by have := Hle.out; simp at this ⊢; omega) ?_; intro v1 z1 hown1))))
        have hown2 := Lib.hid hown1; clear hown1
        go_wp2_with fail
        go_roundw
        case rel => exact ⟨k + 1, by go_num, by omega, (.of (by repeat (first | (with_reducible exact Ext.refl _) | (with_reducible refine Ext.up ?_ _) | (with_reducible refine Ext.alloc ?_ _) | (with_reducible refine Ext.drew ?_) | (with_reducible refine Ext.setRow ?_ (by first | exact LeS.le | exact LeS.add _ | (simp; done) | (simp; omega)) _) | (with_reducible refine Ext.setCell ?_ (by first | exact LeS.le | exact LeS.add _ | (simp; done) | (simp; omega)) _)))), by rw [Hx.out, ← List.append_assoc]; exact hown2.out⟩
        case measure => simp [intOf]; omega
      · obtain rfl : k = r.length := by omega
        rw [List.take_length] at Hown
        go_wp2_with fail
        go_loopw [3, 5] (fun s3 s4 wr => ∃ k : Nat, s4 = .int .i64 k ∧ k ≤ u.length ∧ Up (w.alloc (.cells #[.bool false, .slice p1 r.length c1, .slice p2 u.length c2] 82)) wr ∧ Own encI 3 1 (w.alloc (.cells #[.bool false, .slice p1 r.length c1, .slice p2 u.length c2] 82)).heap.size wr s3 ([0, (r.length : Int)] ++ entNums r ++ entNums (u.take k))) (fun _ s4 _ => u.length - (intOf s4).toNat)
        case atStart => exact ⟨0, rfl, Nat.zero_le _, ⟨z, rfl⟩, by simpa [entNums] using Hown.out⟩
        case round =>
          obtain ⟨k, rfl, hk, ⟨z, rfl⟩, hown⟩ := hrel
          have Hown := Lib.hid hown; clear hown
          by_cases hlt : k < u.length
          · obtain ⟨x, hxk⟩ := getElem?_some_of_lt hlt
            obtain ⟨b, off, rfl, hb, hcc⟩ := hcu k x hxk
            have e0 : w.cell? ⟨b, off + k * 2, none⟩ = some (.int .i64 x.k) := hcc 0 _ rfl
            have e1 : w.cell? ⟨b, off + k * 2 + 1, none⟩ = some (.int .i64 x.v) := hcc 1 _ rfl
            have k0 : (0 : Int) ≤ (k : Int) := by omega
            have k1 : (k : Int) < u.length := by omega
            have Hx := Lib.hid (entNums_snoc hxk)
            have hle : ([0, (r.length : Int)] ++ entNums r ++ entNums (u.take k)).length ≤ 10000 := by simp only [List.length_append, entNums_length, List.length_take, List.length_cons, List.length_nil]; omega
            have Hle := Lib.hid hle
            clear hcr hcu hxk hle hcc
            go_wp2_with fail
            (go_region_held3 (fun w' => (∀ n i, ∀ [LtS n (w.alloc (.cells #[.bool false, .slice p1 r.length c1, .slice (some ⟨b, off, none⟩) u.length c2] 82))], w'.cell? ⟨n, i, none⟩ = World.cell? (w.alloc (.cells #[.bool false, .slice p1 r.length c1, .slice (some ⟨b, off, none⟩) u.length c2] 82)) ⟨n, i, none⟩) ∧ Ext (w.alloc (.cells #[.bool false, .slice p1 r.length c1, .slice (some ⟨b, off, none⟩) u.length c2] 82)) w') ((refine S_of_ext ?_; (repeat (first | exact Ext.refl _ | refine Ext.up ?_ _ | refine Ext.alloc ?_ _ | refine Ext.drew ?_ | refine Ext.setRow ?_ (by first | (dsimp only; omega) | exact LeS.le | exact LeS.add _ | (simp; done) | (simp; omega)) _ | refine Ext.setCell ?_ (by first | (dsimp only; omega) | exact LeS.le | exact LeS.add _ | (simp; done) | (simp; omega)) _)); done)) (((refine step_pushL fI (by rfl) (.tmp 43) (.tmp 56) (by rfl) encI encI_length _ [x.k, x.v] ([0, (r.length : Int)] ++ entNums r ++ entNums (u.take k)) (by rfl) (Hown.out.up (by repeat (first | exact Ext.refl _ | refine Ext.up ?_ _ | refine Ext.alloc ?_ _ | refine Ext.drew ?_ | refine Ext.setRow ?_ (by first | (dsimp only; omega) | exact LeS.le | exact LeS.add _ | (simp; done) | (simp; omega)) _ | refine Ext.setCell ?_ (by first | (dsimp only; omega) | exact LeS.le | exact LeS.add _ | (simp; done) | (simp; omega)) _))) (by repeat (first | exact Ext.refl _ | refine Ext.up ?_ _ | refine Ext.alloc ?_ _ | refine Ext.drew ?_ | refine Ext.setRow ?_ (by first | (dsimp only; omega) | exact LeS.le | exact LeS.add _ | (simp; done) | (simp; omega)) _ | refine Ext.setCell ?_ (by first | (dsimp only; omega) | exact LeS.le | exact LeS.add _ | (simp; done) | (simp; omega)) _)) (by rfl) (by rfl) (by decide) (by go_simp) (by rfl) (oneIs _) (by have := Hle.out; simp at this ⊢; omega) (by have := Hle.out; simp at this ⊢; omega) ?_; intro v1 z1 hown1))))
            have hown2 := Lib.hid hown1; clear hown1
            go_wp2_with fail
            go_roundw
            case rel => exact ⟨k + 1, by go_num, by omega, (.of (by repeat (first | (with_reducible exact Ext.refl _) | (with_reducible refine Ext.up ?_ _) | (with_reducible refine Ext.alloc ?_ _) | (with_reducible refine Ext.drew ?_) | (with_reducible refine Ext.setRow ?_ (by first | exact LeS.le | exact LeS.add _ | (simp; done) | (simp; omega)) _) | (with_reducible refine Ext.setCell ?_ (by first | exact LeS.le | exact LeS.add _ | (simp; done) | (simp; omega)) _)))), by rw [Hx.out, ← List.append_assoc]; exact hown2.out⟩
            case measure => simp [intOf]; omega
          · obtain rfl : k = u.length := by omega
            rw [List.take_length] at Hown
            clear hcr hcu
            go_wp2_with (go_at_call 89; refine (sSumOf_any 3 _ _ _ (Hown.out.sl encI_length)).mono ?_; rintro e w' ⟨rfl, rfl⟩)
            go_ret
            exact ⟨rfl, (.of (by repeat (first | (with_reducible exact Ext.refl _) | (with_reducible refine Ext.up ?_ _) | (with_reducible refine Ext.alloc ?_ _) | (with_reducible refine Ext.drew ?_) | (with_reducible refine Ext.setRow ?_ (by first | exact LeS.le | exact LeS.add _ | (simp; done) | (simp; omega)) _) | (with_reducible refine Ext.setCell ?_ (by first | exact LeS.le | exact LeS.add _ | (simp; done) | (simp; omega)) _))))⟩
  · go_wp2_with fail
    go_loopw [3, 4] (fun s3 s4 wr => ∃ k : Nat, s4 = .int .i64 k ∧ k ≤ r.length ∧ Up (w.alloc (.cells #[.bool true, .slice p1 r.length c1, .slice p2 u.length c2] 82)) wr ∧ Own encI 3 1 (w.alloc (.cells #[.bool true, .slice p1 r.length c1, .slice p2 u.length c2] 82)).heap.size wr s3 ([1, (r.length : Int)] ++ entNums (r.take k))) (fun _ s4 _ => r.length - (intOf s4).toNat)
    case atStart => exact ⟨0, rfl, Nat.zero_le _, (.of (by repeat (first | (with_reducible exact Ext.refl _) | (with_reducible refine Ext.up ?_ _) | (with_reducible refine Ext.alloc ?_ _) | (with_reducible refine Ext.drew ?_) | (with_reducible refine Ext.setRow ?_ (by first | exact LeS.le | exact LeS.add _ | (simp; done) | (simp; omega)) _) | (with_reducible refine Ext.setCell ?_ (by first | exact LeS.le | exact LeS.add _ | (simp; done) | (simp; omega)) _)))), by simpa [entNums] using (Own.lit (lo := (w.alloc (.cells #[.bool true, .slice p1 r.length c1, .slice p2 u.length c2] 82)).heap.size) rfl (Nat.le_refl _) rfl rfl encI_length (by simp) : Own encI 3 1 (w.alloc (.cells #[.bool true, .slice p1 r.length c1, .slice p2 u.length c2] 82)).heap.size ((w.alloc (.cells #[.bool true, .slice p1 r.length c1, .slice p2 u.length c2] 82)).alloc (.cells #[.int .i64 1, .int .i64 r.length] 3)) (.slice (some ⟨(w.alloc (.cells #[.bool true, .slice p1 r.length c1, .slice p2 u.length c2] 82)).heap.size, 0, none⟩) 2 2) [1, (r.length : Int)])⟩
    case round =>
      obtain ⟨k, rfl, hk, ⟨z, rfl⟩, hown⟩ := hrel
      have Hown := Lib.hid hown; clear hown
      by_cases hlt : k < r.length
      · obtain ⟨x, hxk⟩ := getElem?_some_of_lt hlt
        obtain ⟨b, off, rfl, hb, hcc⟩ := hcr k x hxk
        have e0 : w.cell? ⟨b, off + k * 2, none⟩ = some (.int .i64 x.k) := hcc 0 _ rfl
        have e1 : w.cell? ⟨b, off + k * 2 + 1, none⟩ = some (.int .i64 x.v) := hcc 1 _ rfl
        have k0 : (0 : Int) ≤ (k : Int) := by omega
        have k1 : (k : Int) < r.length := by omega
        have Hx := Lib.hid (entNums_snoc hxk)
        have hle : ([1, (r.length : Int)] ++ entNums (r.take k)).length ≤ 10000 := by simp only [List.length_append, entNums_length, List.length_take, List.length_cons, List.length_nil]; omega
        have Hle := Lib.hid hle
        clear hcr hcu hxk hle hcc
        go_wp2_with fail
        (go_region_held3 (fun w' => (∀ n i, ∀ [LtS n (w.alloc (.cells #[.bool true, .slice (some ⟨b, off, none⟩) r.length c1, .slice p2 u.length c2] 82))], w'.cell? ⟨n, i, none⟩ = World.cell? (w.alloc (.cells #[.bool true, .slice (some ⟨b, off, none⟩) r.length c1, .slice p2 u.length c2] 82)) ⟨n, i, none⟩) ∧ Ext (w.alloc (.cells #[.bool true, .slice (some ⟨b, off, none⟩) r.length c1, .slice p2 u.length c2] 82)) w') ((refine S_of_ext ?_; (repeat (first | exact Ext.refl _ | refine Ext.up ?_ _ | refine Ext.alloc ?_ _ | refine Ext.drew ?_ | refine Ext.setRow ?_ (by first | (dsimp only; omega) | exact LeS.le | exact LeS.add _ | (simp; done) | (simp; omega)) _ | refine Ext.setCell ?_ (by first | (dsimp only; omega) | exact LeS.le | exact LeS.add _ | (simp; done) | (simp; omega)) _)); done)) (((refine step_pushL fI (by rfl) (.tmp 21) (.tmp 34) (by rfl) encI encI_length _ [x.k, x.v] ([1, (r.length : Int)] ++ entNums (r.take k)) (by rfl) (Hown.out.up (by repeat (first | exact Ext.refl _ | refine Ext.up ?_ _ | refine Ext.alloc ?_ _ | refine Ext.drew ?_ | refine Ext.setRow ?_ (by first | (dsimp only; omega) | exact LeS.le | exact LeS.add _ | (simp; done) | (simp; omega)) _ | refine Ext.setCell ?_ (by first | (dsimp only; omega) | exact LeS.le | exact LeS.add _ | (simp; done) | (simp; omega)) _))) (by repeat (first | exact Ext.refl _ | refine Ext.up ?_ _ | refine Ext.alloc ?_ _ | refine Ext.drew ?_ | refine Ext.setRow ?_ (by first | (dsimp only; omega) | exact LeS.le | exact LeS.add _ | (simp; done) | (simp; omega)) _ | refine Ext.setCell ?_ (by first | (dsimp only; omega) | exact LeS.le | exact LeS.add _ | (simp; done) | (simp; omega)) _)) (by rfl) (by rfl) (by decide) (by go_simp) (by rfl) (oneIs _) (by have := Hle.out; simp at this ⊢; omega) (by have := Hle.out; simp at this ⊢; omega) ?_; intro v1 z1 hown1))))
        have hown2 := Lib.hid hown1; clear hown1
        go_wp2_with fail
        go_roundw
        case rel => exact ⟨k + 1, by go_num, by omega, (.of (by repeat (first | (with_reducible exact Ext.refl _) | (with_reducible refine Ext.up ?_ _) | (with_reducible refine Ext.alloc ?_ _) | (with_reducible refine Ext.drew ?_) | (with_reducible refine Ext.setRow ?_ (by first | exact LeS.le | exact LeS.add _ | (simp; done) | (simp; omega)) _) | (with_reducible refine Ext.setCell ?_ (by first | exact LeS.le | exact LeS.add _ | (simp; done) | (simp; omega)) _)))), by rw [Hx.out, ← List.append_assoc]; exact hown2.out⟩
        case measure => simp [intOf]; omega
      · obtain rfl : k = r.length := by omega
        rw [List.take_length] at Hown
        go_wp2_with fail
        go_loopw [3, 5] (fun s3 s4 wr => ∃ k : Nat, s4 = .int .i64 k ∧ k ≤ u.length ∧ Up (w.alloc (.cells #[.bool true, .slice p1 r.length c1, .slice p2 u.length c2] 82)) wr ∧ Own encI 3 1 (w.alloc (.cells #[.bool true, .slice p1 r.length c1, .slice p2 u.length c2] 82)).heap.size wr s3 ([1, (r.length : Int)] ++ entNums r ++ entNums (u.take k))) (fun _ s4 _ => u.length - (intOf s4).toNat)
        case atStart => exact ⟨0, rfl, Nat.zero_le _, ⟨z, rfl⟩, by simpa [entNums] using Hown.out⟩
        case round =>
          obtain ⟨k, rfl, hk, ⟨z, rfl⟩, hown⟩ := hrel
          have Hown := Lib.hid hown; clear hown
          by_cases hlt : k < u.length
          · obtain ⟨x, hxk⟩ := getElem?_some_of_lt hlt
            obtain ⟨b, off, rfl, hb, hcc⟩ := hcu k x hxk
            have e0 : w.cell? ⟨b, off + k * 2, none⟩ = some (.int .i64 x.k) := hcc 0 _ rfl
            have e1 : w.cell? ⟨b, off + k * 2 + 1, none⟩ = some (.int .i64 x.v) := hcc 1 _ rfl
            have k0 : (0 : Int) ≤ (k : Int) := by omega
            have k1 : (k : Int) < u.length := by omega
            have Hx := Lib.hid (entNums_snoc hxk)
            have hle : ([1, (r.length : Int)] ++ entNums r ++ entNums (u.take k)).length ≤ 10000 := by simp only [List.length_append, entNums_length, List.length_take, List.length_cons, List.length_nil]; omega
            have Hle := Lib.hid hle
            clear hcr hcu hxk hle hcc
            go_wp2_with fail
            (go_region_held3 (fun w' => (∀ n i, ∀ [LtS n (w.alloc (.cells #[.bool true, .slice p1 r.length c1, .slice (some ⟨b, off, none⟩) u.length c2] 82))], w'.cell? ⟨n, i, none⟩ = World.cell? (w.alloc (.cells #[.bool true, .slice p1 r.length c1, .slice (some ⟨b, off, none⟩) u.length c2] 82)) ⟨n, i, none⟩) ∧ Ext (w.alloc (.cells #[.bool true, .slice p1 r.length c1, .slice (some ⟨b, off, none⟩) u.length c2] 82)) w') ((refine S_of_ext ?_; (repeat (first | exact Ext.refl _ | refine Ext.up ?_ _ | refine Ext.alloc ?_ _ | refine Ext.drew ?_ | refine Ext.setRow ?_ (by first | (dsimp only; omega) | exact LeS.le | exact LeS.add _ | (simp; done) | (simp; omega)) _ | refine Ext.setCell ?_ (by first | (dsimp only; omega) | exact LeS.le | exact LeS.add _ | (simp; done) | (simp; omega)) _)); done)) (((refine step_pushL fI (by rfl) (.tmp 43) (.tmp 56) (by rfl) encI encI_length _ [x.k, x.v] ([1, (r.length : Int)] ++ entNums r ++ entNums (u.take k)) (by rfl) (Hown.out.up (by repeat (first | exact Ext.refl _ | refine Ext.up ?_ _ | refine Ext.alloc ?_ _ | refine Ext.drew ?_ | refine Ext.setRow ?_ (by first | (dsimp only; omega) | exact LeS.le | exact LeS.add _ | (simp; done) | (simp; omega)) _ | refine Ext.setCell ?_ (by first | (dsimp only; omega) | exact LeS.le | exact LeS.add _ | (simp; done) | (simp; omega)) _))) (by repeat (first | exact Ext.refl _ | refine Ext.up ?_ _ | refine Ext.alloc ?_ _ | refine Ext.drew ?_ | refine Ext.setRow ?_ (by first | (dsimp only; omega) | exact LeS.le | exact LeS.add _ | (simp; done) | (simp; omega)) _ | refine Ext.setCell ?_ (by first | (dsimp only; omega) | exact LeS.le | exact LeS.add _ | (simp; done) | (simp; omega)) _)) (by rfl) (by rfl) (by decide) (by go_simp) (by rfl) (oneIs _) (by have := Hle.out; simp at this ⊢; omega) (by have := Hle.out; simp at this ⊢; omega) ?_; intro v1 z1 hown1))))
            have hown2 := Lib.hid hown1; clear hown1
            go_wp2_with fail
            go_roundw
            case rel => exact ⟨k + 1, by go_num, by omega, (.of (by repeat (first | (with_reducible exact Ext.refl _) | (with_reducible refine Ext.up ?_ _) | (with_reducible refine Ext.alloc ?_ _) | (with_reducible refine Ext.drew ?_) | (with_reducible refine Ext.setRow ?_ (by first | exact LeS.le | exact LeS.add _ | (simp; done) | (simp; omega)) _) | (with_reducible refine Ext.setCell ?_ (by first | exact LeS.le | exact LeS.add _ | (simp; done) | (simp; omega)) _)))), by rw [Hx.out, ← List.append_assoc]; exact hown2.out⟩
            case measure => simp [intOf]; omega
          · obtain rfl : k = u.length := by omega
            rw [List.take_length] at Hown
            clear hcr hcu
            go_wp2_with (go_at_call 89; refine (sSumOf_any 3 _ _ _ (Hown.out.sl encI_length)).mono ?_; rintro e w' ⟨rfl, rfl⟩)
            go_ret
            exact ⟨rfl, (.of (by repeat (first | (with_reducible exact Ext.refl _) | (with_reducible refine Ext.up ?_ _) | (with_reducible refine Ext.alloc ?_ _) | (with_reducible refine Ext.drew ?_) | (with_reducible refine Ext.setRow ?_ (by first | exact LeS.le | exact LeS.add _ | (simp; done) | (simp; omega)) _) | (with_reducible refine Ext.setCell ?_ (by first | exact LeS.le | exact LeS.add _ | (simp; done) | (simp; omega)) _))))⟩
set_option maxRecDepth 100000 in
set_option maxHeartbeats 2000000 in
theorem sEffectsSum_any (es : List Eff) (v : Value) (w : World) (h : SE w v es) (hl : es.length ≤ 1000) (hs : ∀ x ∈ es, x.r.length ≤ 1000 ∧ x.w.length ≤ 1000) :
    Calls Try.prog 57 #[v] w fun e w' => e = .returned (.int .i64 (effsSum es)) ∧ Up w w' := by
  obtain ⟨p, c, rfl, _, _, hc⟩ := h.open
  clear h
  have Hs := Lib.hid hs; clear hs
  go_enter Try.func57, Try.ntmps57
  go_wp2_with fail
  go_loopw [3, 4] (fun s3 s4 wr => ∃ k : Nat, s4 = .int .i64 k ∧ k ≤ es.length ∧ Up w wr ∧ Own encI 3 1 w.heap.size wr s3 ((es.take k).map effSum)) (fun _ s4 _ => es.length - (intOf s4).toNat)
  case atStart => exact ⟨0, rfl, Nat.zero_le _, (.of (by repeat (first | (with_reducible exact Ext.refl _) | (with_reducible refine Ext.up ?_ _) | (with_reducible refine Ext.alloc ?_ _) | (with_reducible refine Ext.drew ?_) | (with_reducible refine Ext.setRow ?_ (by first | exact LeS.le | exact LeS.add _ | (simp; done) | (simp; omega)) _) | (with_reducible refine Ext.setCell ?_ (by first | exact LeS.le | exact LeS.add _ | (simp; done) | (simp; omega)) _)))), Own.lit rfl (Nat.le_refl _) rfl rfl encI_length (by simp)⟩
  case round =>
    obtain ⟨k, rfl, hk, ⟨z, rfl⟩, hown⟩ := hrel
    have Hown := Lib.hid hown; clear hown
    have hlk : ((es.take k).map effSum).length ≤ 1000 := by rw [List.length_map, List.length_take]; omega
    by_cases hlt : k < es.length
    · obtain ⟨x, hxk⟩ := getElem?_some_of_lt hlt
      obtain ⟨b, off, q1, d1, q2, d2, rfl, hb, e0, e1, e2, s1, s2⟩ := hc k x hxk
      obtain ⟨l1, l2⟩ := Hs.out x (List.mem_of_getElem? hxk)
      have S1 := Lib.hid s1; have S2 := Lib.hid s2; have Hx := Lib.hid (effSums_snoc hxk)
      have k0 : (0 : Int) ≤ (k : Int) := by omega
      have k1 : (k : Int) < es.length := by omega
      clear hc hxk s1 s2
      go_wp2_with (first | (go_at_call 88; refine (sEffectSum_any x.d _ _ x.r x.w _ (S1.out.up (by repeat (first | (with_reducible exact Ext.refl _) | (with_reducible refine Ext.up ?_ _) | (with_reducible refine Ext.alloc ?_ _) | (with_reducible refine Ext.drew ?_) | (with_reducible refine Ext.setRow ?_ (by first | exact LeS.le | exact LeS.add _ | (simp; done) | (simp; omega)) _) | (with_reducible refine Ext.setCell ?_ (by first | exact LeS.le | exact LeS.add _ | (simp; done) | (simp; omega)) _)))) (S2.out.up (by repeat (first | (with_reducible exact Ext.refl _) | (with_reducible refine Ext.up ?_ _) | (with_reducible refine Ext.alloc ?_ _) | (with_reducible refine Ext.drew ?_) | (with_reducible refine Ext.setRow ?_ (by first | exact LeS.le | exact LeS.add _ | (simp; done) | (simp; omega)) _) | (with_reducible refine Ext.setCell ?_ (by first | exact LeS.le | exact LeS.add _ | (simp; done) | (simp; omega)) _)))) l1 l2).mono ?_; rintro e w' ⟨rfl, z1, rfl⟩) | (at_builtin; refine wpList_push1 fI rfl (.tmp 12) (.tmp 18) rfl encI w (effSum x) ((es.take k).map effSum) rfl (Hown.out.up (by repeat (first | (with_reducible exact Ext.refl _) | (with_reducible refine Ext.up ?_ _) | (with_reducible refine Ext.alloc ?_ _) | (with_reducible refine Ext.drew ?_) | (with_reducible refine Ext.setRow ?_ (by first | exact LeS.le | exact LeS.add _ | (simp; done) | (simp; omega)) _) | (with_reducible refine Ext.setCell ?_ (by first | exact LeS.le | exact LeS.add _ | (simp; done) | (simp; omega)) _)))) (by repeat (first | (with_reducible exact Ext.refl _) | (with_reducible refine Ext.up ?_ _) | (with_reducible refine Ext.alloc ?_ _) | (with_reducible refine Ext.drew ?_) | (with_reducible refine Ext.setRow ?_ (by first | exact LeS.le | exact LeS.add _ | (simp; done) | (simp; omega)) _) | (with_reducible refine Ext.setCell ?_ (by first | exact LeS.le | exact LeS.add _ | (simp; done) | (simp; omega)) _))) rfl (by go_simp) rfl rfl (oneI _) (by omega) (by omega) ?_; intro v7 z7 o7))
      have O7 := Lib.hid o7; clear o7
      go_wp2_with fail
      go_roundw
      case rel => exact ⟨k + 1, by go_num, by omega, (.of (by repeat (first | (with_reducible exact Ext.refl _) | (with_reducible refine Ext.up ?_ _) | (with_reducible refine Ext.alloc ?_ _) | (with_reducible refine Ext.drew ?_) | (with_reducible refine Ext.setRow ?_ (by first | exact LeS.le | exact LeS.add _ | (simp; done) | (simp; omega)) _) | (with_reducible refine Ext.setCell ?_ (by first | exact LeS.le | exact LeS.add _ | (simp; done) | (simp; omega)) _)))), by rw [Hx.out]; exact O7.out⟩
      case measure => simp [intOf]; omega
    · obtain rfl : k = es.length := by omega
      rw [List.take_length] at Hown
      clear hc
      by_cases h10 : es.length ≤ 10
      · have hq : decide ((10 : Int) < es.length) = false := by simp; omega
        have he : effsSum es = sumOf 4 (es.map effSum) := by unfold effsSum; rw [if_pos h10]
        go_wp2_with (go_at_call 89; refine (sSumOf_any 4 _ _ _ (Hown.out.sl encI_length)).mono ?_; rintro e w' ⟨rfl, rfl⟩)
        go_ret
        exact ⟨by rw [he]; rfl, (.of (by repeat (first | (with_reducible exact Ext.refl _) | (with_reducible refine Ext.up ?_ _) | (with_reducible refine Ext.alloc ?_ _) | (with_reducible refine Ext.drew ?_) | (with_reducible refine Ext.setRow ?_ (by first | exact LeS.le | exact LeS.add _ | (simp; done) | (simp; omega)) _) | (with_reducible refine Ext.setCell ?_ (by first | exact LeS.le | exact LeS.add _ | (simp; done) | (simp; omega)) _))))⟩
      · have hq : decide ((10 : Int) < es.length) = true := by simp; omega
        have he : effsSum es = -1 := by unfold effsSum; rw [if_neg h10]
        go_wp2_with fail
        go_ret
        exact ⟨by rw [he]; rfl, (.of (by repeat (first | (with_reducible exact Ext.refl _) | (with_reducible refine Ext.up ?_ _) | (with_reducible refine Ext.alloc ?_ _) | (with_reducible refine Ext.drew ?_) | (with_reducible refine Ext.setRow ?_ (by first | exact LeS.le | exact LeS.add _ | (simp; done) | (simp; omega)) _) | (with_reducible refine Ext.setCell ?_ (by first | exact LeS.le | exact LeS.add _ | (simp; done) | (simp; omega)) _))))⟩
end Go.Proofs.Yteiemjebdhmnaaa
