/- Walks: stores and writes with one entry more, on the reference's side. Plain laws: what actions do with values. -/
import Derived.Test.YtnknamddonjnjaaGEoVTop03
import Derived.Test.YtnknamddonjnjaaGEoVTop04
set_option linter.unusedSimpArgs false
set_option linter.unusedVariables false
namespace Go.Proofs.Ytnknamddonjnjaa
open Go Go.RowKit Go.Proofs

set_option maxRecDepth 100000 in
set_option maxHeartbeats 2000000 in
theorem l2Put_any (l : List Ent) (v : Value) (key val : Int) (w : World) (h : SL (RF Ent.enc) 2 w v l) (hn : l.length ≤ 1073741824) :
    Calls Try.prog 84 #[v, .int .i64 key, .int .i64 val] w fun e w' => ∃ v', e = .returned v' ∧ Up w w' ∧ Own Ent.enc 59 2 w.heap.size w' v' (putF (decide (val = 0)) key val l) := by
  obtain ⟨a, cap, rfl, hlen, hc⟩ := h.open
  clear h
  have hz : (val == 0) = decide (val = 0) := rfl
  go_enter Try.func84, Try.ntmps84
  go_wp2_with fail
  go_loopw [7, 8, 9] (fun s7 s8 s9 wr => ∃ (k : Nat) (p : Bool), s9 = .int .i64 k ∧ k ≤ l.length ∧ Up w wr ∧ (s8 = .bool p ∧ (putTo2 (decide (val = 0)) key val (l.take k)).2 = p) ∧ Own Ent.enc 59 2 w.heap.size wr s7 (putTo2 (decide (val = 0)) key val (l.take k)).1) (fun _ _ s9 _ => l.length - (intOf s9).toNat)
  case atStart => exact ⟨0, _, rfl, Nat.zero_le _, (.of (by repeat (first | (with_reducible exact Ext.refl _) | (with_reducible refine Ext.up ?_ _) | (with_reducible refine Ext.alloc ?_ _) | (with_reducible refine Ext.drew ?_) | (with_reducible refine Ext.setRow ?_ (by first | exact LeS.le | exact LeS.add _ | (simp; done) | (simp; omega)) _) | (with_reducible refine Ext.setCell ?_ (by first | exact LeS.le | exact LeS.add _ | (simp; done) | (simp; omega)) _)))), ⟨rfl, rfl⟩, Own.lit (by simp) (by simp) rfl rfl Ent.enc_length (by simp [putTo2])⟩
  case round =>
    obtain ⟨k, p, rfl, hk, ⟨z, rfl⟩, ⟨rfl, hp⟩, hown⟩ := hrel
    have hle := putTo2_le (decide (val = 0)) key val (l.take k)
    have hlk : (l.take k).length ≤ k := List.length_take_le _ _
    have Hown := Lib.hid hown; clear hown
    by_cases hlt : k < l.length
    · obtain ⟨x, hxk⟩ := getElem?_some_of_lt hlt
      obtain ⟨b, off, rfl, hb, hcc⟩ := hc k x hxk
      have c0 : w.cell? ⟨b, off + k * 2, none⟩ = some (.int .i64 x.k) := hcc 0 _ rfl
      have c1 : w.cell? ⟨b, off + k * 2 + 1, none⟩ = some (.int .i64 x.v) := hcc 1 _ rfl
      have Hx := Lib.hid hxk
      clear hc hcc hxk
      replace hp := Lib.hid hp
      rcases p with _ | _
      · by_cases hge : key ≤ x.k
        · rcases ne_cases x.k key with ⟨h2, h2'⟩ | ⟨h2, h2'⟩
          · have h1 := Lib.hid hge; replace h2 := Lib.hid h2
            go_wp2_with (first | (at_builtin; refine wpList_push1 fEnt rfl (.tmp 30) (.tmp 34) rfl Ent.enc w ⟨key, val⟩ (putTo2 (decide (val = 0)) key val (l.take k)).1 rfl (Hown.out.up (by repeat (first | (with_reducible exact Ext.refl _) | (with_reducible refine Ext.up ?_ _) | (with_reducible refine Ext.alloc ?_ _) | (with_reducible refine Ext.drew ?_) | (with_reducible refine Ext.setRow ?_ (by first | exact LeS.le | exact LeS.add _ | (simp; done) | (simp; omega)) _) | (with_reducible refine Ext.setCell ?_ (by first | exact LeS.le | exact LeS.add _ | (simp; done) | (simp; omega)) _)))) (by repeat (first | (with_reducible exact Ext.refl _) | (with_reducible refine Ext.up ?_ _) | (with_reducible refine Ext.alloc ?_ _) | (with_reducible refine Ext.drew ?_) | (with_reducible refine Ext.setRow ?_ (by first | exact LeS.le | exact LeS.add _ | (simp; done) | (simp; omega)) _) | (with_reducible refine Ext.setCell ?_ (by first | exact LeS.le | exact LeS.add _ | (simp; done) | (simp; omega)) _))) rfl (by go_simp) rfl rfl (oneE _) (by omega) (by omega) ?_; intro v1 z1 hown1; have hown2 := Lib.hid hown1; clear hown1) | (at_builtin; refine wpList_push1 fEnt rfl (.tmp 43) (.tmp 48) rfl Ent.enc w x ((putTo2 (decide (val = 0)) key val (l.take k)).1 ++ [⟨key, val⟩]) rfl (hown2.out.up (by repeat (first | (with_reducible exact Ext.refl _) | (with_reducible refine Ext.up ?_ _) | (with_reducible refine Ext.alloc ?_ _) | (with_reducible refine Ext.drew ?_) | (with_reducible refine Ext.setRow ?_ (by first | exact LeS.le | exact LeS.add _ | (simp; done) | (simp; omega)) _) | (with_reducible refine Ext.setCell ?_ (by first | exact LeS.le | exact LeS.add _ | (simp; done) | (simp; omega)) _)))) (by repeat (first | (with_reducible exact Ext.refl _) | (with_reducible refine Ext.up ?_ _) | (with_reducible refine Ext.alloc ?_ _) | (with_reducible refine Ext.drew ?_) | (with_reducible refine Ext.setRow ?_ (by first | exact LeS.le | exact LeS.add _ | (simp; done) | (simp; omega)) _) | (with_reducible refine Ext.setCell ?_ (by first | exact LeS.le | exact LeS.add _ | (simp; done) | (simp; omega)) _))) rfl (by go_simp) rfl rfl (oneE _) (by first | omega | (simp only [List.length_append, List.length_cons, List.length_nil]; omega)) (by first | omega | (simp only [List.length_append, List.length_cons, List.length_nil]; omega)) ?_; intro v3 z3 hown3))
            have hown4 := Lib.hid hown3; clear hown3
            go_wp2_with fail
            go_roundw
            case rel => exact ⟨k + 1, true, by go_num, by omega, (.of (by repeat (first | (with_reducible exact Ext.refl _) | (with_reducible refine Ext.up ?_ _) | (with_reducible refine Ext.alloc ?_ _) | (with_reducible refine Ext.drew ?_) | (with_reducible refine Ext.setRow ?_ (by first | exact LeS.le | exact LeS.add _ | (simp; done) | (simp; omega)) _) | (with_reducible refine Ext.setCell ?_ (by first | exact LeS.le | exact LeS.add _ | (simp; done) | (simp; omega)) _)))), ⟨rfl, by rw [putTo2_snoc _ _ _ Hx.out]; simp [putStep, hp.out, h1.out]⟩, by rw [putTo2_snoc _ _ _ Hx.out]; simpa [putStep, hp.out, h1.out, h2.out] using hown4.out⟩
            case measure => simp [intOf]; omega
          · have h1 := Lib.hid hge; replace h2 := Lib.hid h2
            go_wp2_with (at_builtin; refine wpList_push1 fEnt rfl (.tmp 30) (.tmp 34) rfl Ent.enc w ⟨key, val⟩ (putTo2 (decide (val = 0)) key val (l.take k)).1 rfl (Hown.out.up (by repeat (first | (with_reducible exact Ext.refl _) | (with_reducible refine Ext.up ?_ _) | (with_reducible refine Ext.alloc ?_ _) | (with_reducible refine Ext.drew ?_) | (with_reducible refine Ext.setRow ?_ (by first | exact LeS.le | exact LeS.add _ | (simp; done) | (simp; omega)) _) | (with_reducible refine Ext.setCell ?_ (by first | exact LeS.le | exact LeS.add _ | (simp; done) | (simp; omega)) _)))) (by repeat (first | (with_reducible exact Ext.refl _) | (with_reducible refine Ext.up ?_ _) | (with_reducible refine Ext.alloc ?_ _) | (with_reducible refine Ext.drew ?_) | (with_reducible refine Ext.setRow ?_ (by first | exact LeS.le | exact LeS.add _ | (simp; done) | (simp; omega)) _) | (with_reducible refine Ext.setCell ?_ (by first | exact LeS.le | exact LeS.add _ | (simp; done) | (simp; omega)) _))) rfl (by go_simp) rfl rfl (oneE _) (by omega) (by omega) ?_; intro v1 z1 hown1)
            have hown2 := Lib.hid hown1; clear hown1
            go_wp2_with fail
            go_roundw
            case rel => exact ⟨k + 1, true, by go_num, by omega, (.of (by repeat (first | (with_reducible exact Ext.refl _) | (with_reducible refine Ext.up ?_ _) | (with_reducible refine Ext.alloc ?_ _) | (with_reducible refine Ext.drew ?_) | (with_reducible refine Ext.setRow ?_ (by first | exact LeS.le | exact LeS.add _ | (simp; done) | (simp; omega)) _) | (with_reducible refine Ext.setCell ?_ (by first | exact LeS.le | exact LeS.add _ | (simp; done) | (simp; omega)) _)))), ⟨rfl, by rw [putTo2_snoc _ _ _ Hx.out]; simp [putStep, hp.out, h1.out]⟩, by rw [putTo2_snoc _ _ _ Hx.out]; simpa [putStep, hp.out, h1.out, h2.out] using hown2.out⟩
            case measure => simp [intOf]; omega
        · obtain ⟨h2, h2'⟩ : x.k ≠ key ∧ (x.k != key) = true := by refine ⟨by omega, ?_⟩; simp; omega
          have h1 := Lib.hid hge; replace h2 := Lib.hid h2
          go_wp2_with (at_builtin; refine wpList_push1 fEnt rfl (.tmp 43) (.tmp 48) rfl Ent.enc w x (putTo2 (decide (val = 0)) key val (l.take k)).1 rfl (Hown.out.up (by repeat (first | (with_reducible exact Ext.refl _) | (with_reducible refine Ext.up ?_ _) | (with_reducible refine Ext.alloc ?_ _) | (with_reducible refine Ext.drew ?_) | (with_reducible refine Ext.setRow ?_ (by first | exact LeS.le | exact LeS.add _ | (simp; done) | (simp; omega)) _) | (with_reducible refine Ext.setCell ?_ (by first | exact LeS.le | exact LeS.add _ | (simp; done) | (simp; omega)) _)))) (by repeat (first | (with_reducible exact Ext.refl _) | (with_reducible refine Ext.up ?_ _) | (with_reducible refine Ext.alloc ?_ _) | (with_reducible refine Ext.drew ?_) | (with_reducible refine Ext.setRow ?_ (by first | exact LeS.le | exact LeS.add _ | (simp; done) | (simp; omega)) _) | (with_reducible refine Ext.setCell ?_ (by first | exact LeS.le | exact LeS.add _ | (simp; done) | (simp; omega)) _))) rfl (by go_simp) rfl rfl (oneE _) (by first | omega | (simp only [List.length_append, List.length_cons, List.length_nil]; omega)) (by first | omega | (simp only [List.length_append, List.length_cons, List.length_nil]; omega)) ?_; intro v3 z3 hown3)
          have hown4 := Lib.hid hown3; clear hown3
          go_wp2_with fail
          go_roundw
          case rel => exact ⟨k + 1, false, by go_num, by omega, (.of (by repeat (first | (with_reducible exact Ext.refl _) | (with_reducible refine Ext.up ?_ _) | (with_reducible refine Ext.alloc ?_ _) | (with_reducible refine Ext.drew ?_) | (with_reducible refine Ext.setRow ?_ (by first | exact LeS.le | exact LeS.add _ | (simp; done) | (simp; omega)) _) | (with_reducible refine Ext.setCell ?_ (by first | exact LeS.le | exact LeS.add _ | (simp; done) | (simp; omega)) _)))), ⟨rfl, by rw [putTo2_snoc _ _ _ Hx.out]; simp [putStep, hp.out, h1.out]⟩, by rw [putTo2_snoc _ _ _ Hx.out]; simpa [putStep, hp.out, h1.out, h2.out] using hown4.out⟩
          case measure => simp [intOf]; omega
      · rcases ne_cases x.k key with ⟨h2, h2'⟩ | ⟨h2, h2'⟩
        · replace h2 := Lib.hid h2
          go_wp2_with (at_builtin; refine wpList_push1 fEnt rfl (.tmp 43) (.tmp 48) rfl Ent.enc w x (putTo2 (decide (val = 0)) key val (l.take k)).1 rfl (Hown.out.up (by repeat (first | (with_reducible exact Ext.refl _) | (with_reducible refine Ext.up ?_ _) | (with_reducible refine Ext.alloc ?_ _) | (with_reducible refine Ext.drew ?_) | (with_reducible refine Ext.setRow ?_ (by first | exact LeS.le | exact LeS.add _ | (simp; done) | (simp; omega)) _) | (with_reducible refine Ext.setCell ?_ (by first | exact LeS.le | exact LeS.add _ | (simp; done) | (simp; omega)) _)))) (by repeat (first | (with_reducible exact Ext.refl _) | (with_reducible refine Ext.up ?_ _) | (with_reducible refine Ext.alloc ?_ _) | (with_reducible refine Ext.drew ?_) | (with_reducible refine Ext.setRow ?_ (by first | exact LeS.le | exact LeS.add _ | (simp; done) | (simp; omega)) _) | (with_reducible refine Ext.setCell ?_ (by first | exact LeS.le | exact LeS.add _ | (simp; done) | (simp; omega)) _))) rfl (by go_simp) rfl rfl (oneE _) (by first | omega | (simp only [List.length_append, List.length_cons, List.length_nil]; omega)) (by first | omega | (simp only [List.length_append, List.length_cons, List.length_nil]; omega)) ?_; intro v3 z3 hown3)
          have hown4 := Lib.hid hown3; clear hown3
          go_wp2_with fail
          go_roundw
          case rel => exact ⟨k + 1, true, by go_num, by omega, (.of (by repeat (first | (with_reducible exact Ext.refl _) | (with_reducible refine Ext.up ?_ _) | (with_reducible refine Ext.alloc ?_ _) | (with_reducible refine Ext.drew ?_) | (with_reducible refine Ext.setRow ?_ (by first | exact LeS.le | exact LeS.add _ | (simp; done) | (simp; omega)) _) | (with_reducible refine Ext.setCell ?_ (by first | exact LeS.le | exact LeS.add _ | (simp; done) | (simp; omega)) _)))), ⟨rfl, by rw [putTo2_snoc _ _ _ Hx.out]; simp [putStep, hp.out]⟩, by rw [putTo2_snoc _ _ _ Hx.out]; simpa [putStep, hp.out, h2.out] using hown4.out⟩
          case measure => simp [intOf]; omega
        · replace h2 := Lib.hid h2
          go_wp2_with fail
          go_roundw
          case rel => exact ⟨k + 1, true, by go_num, by omega, (.of (by repeat (first | (with_reducible exact Ext.refl _) | (with_reducible refine Ext.up ?_ _) | (with_reducible refine Ext.alloc ?_ _) | (with_reducible refine Ext.drew ?_) | (with_reducible refine Ext.setRow ?_ (by first | exact LeS.le | exact LeS.add _ | (simp; done) | (simp; omega)) _) | (with_reducible refine Ext.setCell ?_ (by first | exact LeS.le | exact LeS.add _ | (simp; done) | (simp; omega)) _)))), ⟨rfl, by rw [putTo2_snoc _ _ _ Hx.out]; simp [putStep, hp.out]⟩, by rw [putTo2_snoc _ _ _ Hx.out]; simpa [putStep, hp.out, h2.out] using Hown.out.up (by repeat (first | (with_reducible exact Ext.refl _) | (with_reducible refine Ext.up ?_ _) | (with_reducible refine Ext.alloc ?_ _) | (with_reducible refine Ext.drew ?_) | (with_reducible refine Ext.setRow ?_ (by first | exact LeS.le | exact LeS.add _ | (simp; done) | (simp; omega)) _) | (with_reducible refine Ext.setCell ?_ (by first | exact LeS.le | exact LeS.add _ | (simp; done) | (simp; omega)) _)))⟩
          case measure => simp [intOf]; omega
    · obtain rfl : k = l.length := by omega
      clear hc
      rcases p with _ | _
      · go_wp2_with (at_builtin; refine wpList_push1 fEnt rfl (.tmp 52) (.tmp 56) rfl Ent.enc w ⟨key, val⟩ (putTo2 (decide (val = 0)) key val (l.take l.length)).1 rfl (Hown.out.up (by repeat (first | (with_reducible exact Ext.refl _) | (with_reducible refine Ext.up ?_ _) | (with_reducible refine Ext.alloc ?_ _) | (with_reducible refine Ext.drew ?_) | (with_reducible refine Ext.setRow ?_ (by first | exact LeS.le | exact LeS.add _ | (simp; done) | (simp; omega)) _) | (with_reducible refine Ext.setCell ?_ (by first | exact LeS.le | exact LeS.add _ | (simp; done) | (simp; omega)) _)))) (by repeat (first | (with_reducible exact Ext.refl _) | (with_reducible refine Ext.up ?_ _) | (with_reducible refine Ext.alloc ?_ _) | (with_reducible refine Ext.drew ?_) | (with_reducible refine Ext.setRow ?_ (by first | exact LeS.le | exact LeS.add _ | (simp; done) | (simp; omega)) _) | (with_reducible refine Ext.setCell ?_ (by first | exact LeS.le | exact LeS.add _ | (simp; done) | (simp; omega)) _))) rfl (by go_simp) rfl rfl (oneE _) (by omega) (by omega) ?_; intro v1 z1 hown1)
        have hown2 := Lib.hid hown1; clear hown1
        go_wp2_with fail
        go_ret
        refine ⟨_, rfl, (.of (by repeat (first | (with_reducible exact Ext.refl _) | (with_reducible refine Ext.up ?_ _) | (with_reducible refine Ext.alloc ?_ _) | (with_reducible refine Ext.drew ?_) | (with_reducible refine Ext.setRow ?_ (by first | exact LeS.le | exact LeS.add _ | (simp; done) | (simp; omega)) _) | (with_reducible refine Ext.setCell ?_ (by first | exact LeS.le | exact LeS.add _ | (simp; done) | (simp; omega)) _)))), ?_⟩
        have := hown2.out
        rw [List.take_length] at this hp
        unfold putF
        rw [hp, if_neg (by decide)]
        exact this
      · go_wp2_with fail
        go_ret
        refine ⟨_, rfl, (.of (by repeat (first | (with_reducible exact Ext.refl _) | (with_reducible refine Ext.up ?_ _) | (with_reducible refine Ext.alloc ?_ _) | (with_reducible refine Ext.drew ?_) | (with_reducible refine Ext.setRow ?_ (by first | exact LeS.le | exact LeS.add _ | (simp; done) | (simp; omega)) _) | (with_reducible refine Ext.setCell ?_ (by first | exact LeS.le | exact LeS.add _ | (simp; done) | (simp; omega)) _)))), ?_⟩
        have := Hown.out
        rw [List.take_length] at this hp
        unfold putF
        rw [hp, if_pos rfl]
        exact this
set_option maxRecDepth 100000 in
set_option maxHeartbeats 2000000 in
theorem l4Put_any (l : List Ent) (v : Value) (key val : Int) (w : World) (h : SL (RF Ent.enc) 2 w v l) (hn : l.length ≤ 1073741824) :
    Calls Try.prog 78 #[v, .int .i64 key, .int .i64 val] w fun e w' => ∃ v', e = .returned v' ∧ Up w w' ∧ Own Ent.enc 59 2 w.heap.size w' v' (putF false key val l) := by
  obtain ⟨a, cap, rfl, hlen, hc⟩ := h.open
  clear h
  have hz : (val == 0) = decide (val = 0) := rfl
  go_enter Try.func78, Try.ntmps78
  go_wp2_with fail
  go_loopw [7, 8, 9] (fun s7 s8 s9 wr => ∃ (k : Nat) (p : Bool), s9 = .int .i64 k ∧ k ≤ l.length ∧ Up w wr ∧ (s8 = .bool p ∧ (putTo2 false key val (l.take k)).2 = p) ∧ Own Ent.enc 59 2 w.heap.size wr s7 (putTo2 false key val (l.take k)).1) (fun _ _ s9 _ => l.length - (intOf s9).toNat)
  case atStart => exact ⟨0, _, rfl, Nat.zero_le _, (.of (by repeat (first | (with_reducible exact Ext.refl _) | (with_reducible refine Ext.up ?_ _) | (with_reducible refine Ext.alloc ?_ _) | (with_reducible refine Ext.drew ?_) | (with_reducible refine Ext.setRow ?_ (by first | exact LeS.le | exact LeS.add _ | (simp; done) | (simp; omega)) _) | (with_reducible refine Ext.setCell ?_ (by first | exact LeS.le | exact LeS.add _ | (simp; done) | (simp; omega)) _)))), ⟨rfl, rfl⟩, Own.lit (by simp) (by simp) rfl rfl Ent.enc_length (by simp [putTo2])⟩
  case round =>
    obtain ⟨k, p, rfl, hk, ⟨z, rfl⟩, ⟨rfl, hp⟩, hown⟩ := hrel
    have hle := putTo2_le false key val (l.take k)
    have hlk : (l.take k).length ≤ k := List.length_take_le _ _
    have Hown := Lib.hid hown; clear hown
    by_cases hlt : k < l.length
    · obtain ⟨x, hxk⟩ := getElem?_some_of_lt hlt
      obtain ⟨b, off, rfl, hb, hcc⟩ := hc k x hxk
      have c0 : w.cell? ⟨b, off + k * 2, none⟩ = some (.int .i64 x.k) := hcc 0 _ rfl
      have c1 : w.cell? ⟨b, off + k * 2 + 1, none⟩ = some (.int .i64 x.v) := hcc 1 _ rfl
      have Hx := Lib.hid hxk
      clear hc hcc hxk
      replace hp := Lib.hid hp
      rcases p with _ | _
      · by_cases hge : key ≤ x.k
        · rcases ne_cases x.k key with ⟨h2, h2'⟩ | ⟨h2, h2'⟩
          · have h1 := Lib.hid hge; replace h2 := Lib.hid h2
            go_wp2_with (first | (at_builtin; refine wpList_push1 fEnt rfl (.tmp 28) (.tmp 32) rfl Ent.enc w ⟨key, val⟩ (putTo2 false key val (l.take k)).1 rfl (Hown.out.up (by repeat (first | (with_reducible exact Ext.refl _) | (with_reducible refine Ext.up ?_ _) | (with_reducible refine Ext.alloc ?_ _) | (with_reducible refine Ext.drew ?_) | (with_reducible refine Ext.setRow ?_ (by first | exact LeS.le | exact LeS.add _ | (simp; done) | (simp; omega)) _) | (with_reducible refine Ext.setCell ?_ (by first | exact LeS.le | exact LeS.add _ | (simp; done) | (simp; omega)) _)))) (by repeat (first | (with_reducible exact Ext.refl _) | (with_reducible refine Ext.up ?_ _) | (with_reducible refine Ext.alloc ?_ _) | (with_reducible refine Ext.drew ?_) | (with_reducible refine Ext.setRow ?_ (by first | exact LeS.le | exact LeS.add _ | (simp; done) | (simp; omega)) _) | (with_reducible refine Ext.setCell ?_ (by first | exact LeS.le | exact LeS.add _ | (simp; done) | (simp; omega)) _))) rfl (by go_simp) rfl rfl (oneE _) (by omega) (by omega) ?_; intro v1 z1 hown1; have hown2 := Lib.hid hown1; clear hown1) | (at_builtin; refine wpList_push1 fEnt rfl (.tmp 41) (.tmp 46) rfl Ent.enc w x ((putTo2 false key val (l.take k)).1 ++ [⟨key, val⟩]) rfl (hown2.out.up (by repeat (first | (with_reducible exact Ext.refl _) | (with_reducible refine Ext.up ?_ _) | (with_reducible refine Ext.alloc ?_ _) | (with_reducible refine Ext.drew ?_) | (with_reducible refine Ext.setRow ?_ (by first | exact LeS.le | exact LeS.add _ | (simp; done) | (simp; omega)) _) | (with_reducible refine Ext.setCell ?_ (by first | exact LeS.le | exact LeS.add _ | (simp; done) | (simp; omega)) _)))) (by repeat (first | (with_reducible exact Ext.refl _) | (with_reducible refine Ext.up ?_ _) | (with_reducible refine Ext.alloc ?_ _) | (with_reducible refine Ext.drew ?_) | (with_reducible refine Ext.setRow ?_ (by first | exact LeS.le | exact LeS.add _ | (simp; done) | (simp; omega)) _) | (with_reducible refine Ext.setCell ?_ (by first | exact LeS.le | exact LeS.add _ | (simp; done) | (simp; omega)) _))) rfl (by go_simp) rfl rfl (oneE _) (by first | omega | (simp only [List.length_append, List.length_cons, List.length_nil]; omega)) (by first | omega | (simp only [List.length_append, List.length_cons, List.length_nil]; omega)) ?_; intro v3 z3 hown3))
            have hown4 := Lib.hid hown3; clear hown3
            go_wp2_with fail
            go_roundw
            case rel => exact ⟨k + 1, true, by go_num, by omega, (.of (by repeat (first | (with_reducible exact Ext.refl _) | (with_reducible refine Ext.up ?_ _) | (with_reducible refine Ext.alloc ?_ _) | (with_reducible refine Ext.drew ?_) | (with_reducible refine Ext.setRow ?_ (by first | exact LeS.le | exact LeS.add _ | (simp; done) | (simp; omega)) _) | (with_reducible refine Ext.setCell ?_ (by first | exact LeS.le | exact LeS.add _ | (simp; done) | (simp; omega)) _)))), ⟨rfl, by rw [putTo2_snoc _ _ _ Hx.out]; simp [putStep, hp.out, h1.out]⟩, by rw [putTo2_snoc _ _ _ Hx.out]; simpa [putStep, hp.out, h1.out, h2.out] using hown4.out⟩
            case measure => simp [intOf]; omega
          · have h1 := Lib.hid hge; replace h2 := Lib.hid h2
            go_wp2_with (at_builtin; refine wpList_push1 fEnt rfl (.tmp 28) (.tmp 32) rfl Ent.enc w ⟨key, val⟩ (putTo2 false key val (l.take k)).1 rfl (Hown.out.up (by repeat (first | (with_reducible exact Ext.refl _) | (with_reducible refine Ext.up ?_ _) | (with_reducible refine Ext.alloc ?_ _) | (with_reducible refine Ext.drew ?_) | (with_reducible refine Ext.setRow ?_ (by first | exact LeS.le | exact LeS.add _ | (simp; done) | (simp; omega)) _) | (with_reducible refine Ext.setCell ?_ (by first | exact LeS.le | exact LeS.add _ | (simp; done) | (simp; omega)) _)))) (by repeat (first | (with_reducible exact Ext.refl _) | (with_reducible refine Ext.up ?_ _) | (with_reducible refine Ext.alloc ?_ _) | (with_reducible refine Ext.drew ?_) | (with_reducible refine Ext.setRow ?_ (by first | exact LeS.le | exact LeS.add _ | (simp; done) | (simp; omega)) _) | (with_reducible refine Ext.setCell ?_ (by first | exact LeS.le | exact LeS.add _ | (simp; done) | (simp; omega)) _))) rfl (by go_simp) rfl rfl (oneE _) (by omega) (by omega) ?_; intro v1 z1 hown1)
            have hown2 := Lib.hid hown1; clear hown1
            go_wp2_with fail
            go_roundw
            case rel => exact ⟨k + 1, true, by go_num, by omega, (.of (by repeat (first | (with_reducible exact Ext.refl _) | (with_reducible refine Ext.up ?_ _) | (with_reducible refine Ext.alloc ?_ _) | (with_reducible refine Ext.drew ?_) | (with_reducible refine Ext.setRow ?_ (by first | exact LeS.le | exact LeS.add _ | (simp; done) | (simp; omega)) _) | (with_reducible refine Ext.setCell ?_ (by first | exact LeS.le | exact LeS.add _ | (simp; done) | (simp; omega)) _)))), ⟨rfl, by rw [putTo2_snoc _ _ _ Hx.out]; simp [putStep, hp.out, h1.out]⟩, by rw [putTo2_snoc _ _ _ Hx.out]; simpa [putStep, hp.out, h1.out, h2.out] using hown2.out⟩
            case measure => simp [intOf]; omega
        · obtain ⟨h2, h2'⟩ : x.k ≠ key ∧ (x.k != key) = true := by refine ⟨by omega, ?_⟩; simp; omega
          have h1 := Lib.hid hge; replace h2 := Lib.hid h2
          go_wp2_with (at_builtin; refine wpList_push1 fEnt rfl (.tmp 41) (.tmp 46) rfl Ent.enc w x (putTo2 false key val (l.take k)).1 rfl (Hown.out.up (by repeat (first | (with_reducible exact Ext.refl _) | (with_reducible refine Ext.up ?_ _) | (with_reducible refine Ext.alloc ?_ _) | (with_reducible refine Ext.drew ?_) | (with_reducible refine Ext.setRow ?_ (by first | exact LeS.le | exact LeS.add _ | (simp; done) | (simp; omega)) _) | (with_reducible refine Ext.setCell ?_ (by first | exact LeS.le | exact LeS.add _ | (simp; done) | (simp; omega)) _)))) (by repeat (first | (with_reducible exact Ext.refl _) | (with_reducible refine Ext.up ?_ _) | (with_reducible refine Ext.alloc ?_ _) | (with_reducible refine Ext.drew ?_) | (with_reducible refine Ext.setRow ?_ (by first | exact LeS.le | exact LeS.add _ | (simp; done) | (simp; omega)) _) | (with_reducible refine Ext.setCell ?_ (by first | exact LeS.le | exact LeS.add _ | (simp; done) | (simp; omega)) _))) rfl (by go_simp) rfl rfl (oneE _) (by first | omega | (simp only [List.length_append, List.length_cons, List.length_nil]; omega)) (by first | omega | (simp only [List.length_append, List.length_cons, List.length_nil]; omega)) ?_; intro v3 z3 hown3)
          have hown4 := Lib.hid hown3; clear hown3
          go_wp2_with fail
          go_roundw
          case rel => exact ⟨k + 1, false, by go_num, by omega, (.of (by repeat (first | (with_reducible exact Ext.refl _) | (with_reducible refine Ext.up ?_ _) | (with_reducible refine Ext.alloc ?_ _) | (with_reducible refine Ext.drew ?_) | (with_reducible refine Ext.setRow ?_ (by first | exact LeS.le | exact LeS.add _ | (simp; done) | (simp; omega)) _) | (with_reducible refine Ext.setCell ?_ (by first | exact LeS.le | exact LeS.add _ | (simp; done) | (simp; omega)) _)))), ⟨rfl, by rw [putTo2_snoc _ _ _ Hx.out]; simp [putStep, hp.out, h1.out]⟩, by rw [putTo2_snoc _ _ _ Hx.out]; simpa [putStep, hp.out, h1.out, h2.out] using hown4.out⟩
          case measure => simp [intOf]; omega
      · rcases ne_cases x.k key with ⟨h2, h2'⟩ | ⟨h2, h2'⟩
        · replace h2 := Lib.hid h2
          go_wp2_with (at_builtin; refine wpList_push1 fEnt rfl (.tmp 41) (.tmp 46) rfl Ent.enc w x (putTo2 false key val (l.take k)).1 rfl (Hown.out.up (by repeat (first | (with_reducible exact Ext.refl _) | (with_reducible refine Ext.up ?_ _) | (with_reducible refine Ext.alloc ?_ _) | (with_reducible refine Ext.drew ?_) | (with_reducible refine Ext.setRow ?_ (by first | exact LeS.le | exact LeS.add _ | (simp; done) | (simp; omega)) _) | (with_reducible refine Ext.setCell ?_ (by first | exact LeS.le | exact LeS.add _ | (simp; done) | (simp; omega)) _)))) (by repeat (first | (with_reducible exact Ext.refl _) | (with_reducible refine Ext.up ?_ _) | (with_reducible refine Ext.alloc ?_ _) | (with_reducible refine Ext.drew ?_) | (with_reducible refine Ext.setRow ?_ (by first | exact LeS.le | exact LeS.add _ | (simp; done) | (simp; omega)) _) | (with_reducible refine Ext.setCell ?_ (by first | exact LeS.le | exact LeS.add _ | (simp; done) | (simp; omega)) _))) rfl (by go_simp) rfl rfl (oneE _) (by first | omega | (simp only [List.length_append, List.length_cons, List.length_nil]; omega)) (by first | omega | (simp only [List.length_append, List.length_cons, List.length_nil]; omega)) ?_; intro v3 z3 hown3)
          have hown4 := Lib.hid hown3; clear hown3
          go_wp2_with fail
          go_roundw
          case rel => exact ⟨k + 1, true, by go_num, by omega, (.of (by repeat (first | (with_reducible exact Ext.refl _) | (with_reducible refine Ext.up ?_ _) | (with_reducible refine Ext.alloc ?_ _) | (with_reducible refine Ext.drew ?_) | (with_reducible refine Ext.setRow ?_ (by first | exact LeS.le | exact LeS.add _ | (simp; done) | (simp; omega)) _) | (with_reducible refine Ext.setCell ?_ (by first | exact LeS.le | exact LeS.add _ | (simp; done) | (simp; omega)) _)))), ⟨rfl, by rw [putTo2_snoc _ _ _ Hx.out]; simp [putStep, hp.out]⟩, by rw [putTo2_snoc _ _ _ Hx.out]; simpa [putStep, hp.out, h2.out] using hown4.out⟩
          case measure => simp [intOf]; omega
        · replace h2 := Lib.hid h2
          go_wp2_with fail
          go_roundw
          case rel => exact ⟨k + 1, true, by go_num, by omega, (.of (by repeat (first | (with_reducible exact Ext.refl _) | (with_reducible refine Ext.up ?_ _) | (with_reducible refine Ext.alloc ?_ _) | (with_reducible refine Ext.drew ?_) | (with_reducible refine Ext.setRow ?_ (by first | exact LeS.le | exact LeS.add _ | (simp; done) | (simp; omega)) _) | (with_reducible refine Ext.setCell ?_ (by first | exact LeS.le | exact LeS.add _ | (simp; done) | (simp; omega)) _)))), ⟨rfl, by rw [putTo2_snoc _ _ _ Hx.out]; simp [putStep, hp.out]⟩, by rw [putTo2_snoc _ _ _ Hx.out]; simpa [putStep, hp.out, h2.out] using Hown.out.up (by repeat (first | (with_reducible exact Ext.refl _) | (with_reducible refine Ext.up ?_ _) | (with_reducible refine Ext.alloc ?_ _) | (with_reducible refine Ext.drew ?_) | (with_reducible refine Ext.setRow ?_ (by first | exact LeS.le | exact LeS.add _ | (simp; done) | (simp; omega)) _) | (with_reducible refine Ext.setCell ?_ (by first | exact LeS.le | exact LeS.add _ | (simp; done) | (simp; omega)) _)))⟩
          case measure => simp [intOf]; omega
    · obtain rfl : k = l.length := by omega
      clear hc
      rcases p with _ | _
      · go_wp2_with (at_builtin; refine wpList_push1 fEnt rfl (.tmp 50) (.tmp 54) rfl Ent.enc w ⟨key, val⟩ (putTo2 false key val (l.take l.length)).1 rfl (Hown.out.up (by repeat (first | (with_reducible exact Ext.refl _) | (with_reducible refine Ext.up ?_ _) | (with_reducible refine Ext.alloc ?_ _) | (with_reducible refine Ext.drew ?_) | (with_reducible refine Ext.setRow ?_ (by first | exact LeS.le | exact LeS.add _ | (simp; done) | (simp; omega)) _) | (with_reducible refine Ext.setCell ?_ (by first | exact LeS.le | exact LeS.add _ | (simp; done) | (simp; omega)) _)))) (by repeat (first | (with_reducible exact Ext.refl _) | (with_reducible refine Ext.up ?_ _) | (with_reducible refine Ext.alloc ?_ _) | (with_reducible refine Ext.drew ?_) | (with_reducible refine Ext.setRow ?_ (by first | exact LeS.le | exact LeS.add _ | (simp; done) | (simp; omega)) _) | (with_reducible refine Ext.setCell ?_ (by first | exact LeS.le | exact LeS.add _ | (simp; done) | (simp; omega)) _))) rfl (by go_simp) rfl rfl (oneE _) (by omega) (by omega) ?_; intro v1 z1 hown1)
        have hown2 := Lib.hid hown1; clear hown1
        go_wp2_with fail
        go_ret
        refine ⟨_, rfl, (.of (by repeat (first | (with_reducible exact Ext.refl _) | (with_reducible refine Ext.up ?_ _) | (with_reducible refine Ext.alloc ?_ _) | (with_reducible refine Ext.drew ?_) | (with_reducible refine Ext.setRow ?_ (by first | exact LeS.le | exact LeS.add _ | (simp; done) | (simp; omega)) _) | (with_reducible refine Ext.setCell ?_ (by first | exact LeS.le | exact LeS.add _ | (simp; done) | (simp; omega)) _)))), ?_⟩
        have := hown2.out
        rw [List.take_length] at this hp
        unfold putF
        rw [hp, if_neg (by decide)]
        exact this
      · go_wp2_with fail
        go_ret
        refine ⟨_, rfl, (.of (by repeat (first | (with_reducible exact Ext.refl _) | (with_reducible refine Ext.up ?_ _) | (with_reducible refine Ext.alloc ?_ _) | (with_reducible refine Ext.drew ?_) | (with_reducible refine Ext.setRow ?_ (by first | exact LeS.le | exact LeS.add _ | (simp; done) | (simp; omega)) _) | (with_reducible refine Ext.setCell ?_ (by first | exact LeS.le | exact LeS.add _ | (simp; done) | (simp; omega)) _)))), ?_⟩
        have := Hown.out
        rw [List.take_length] at this hp
        unfold putF
        rw [hp, if_pos rfl]
        exact this
end Go.Proofs.Ytnknamddonjnjaa
namespace Go.Proofs.Ytnknamddonjnjaa
open Go Go.RowKit

structure Eff where
  d : Bool
  r : List Ent
  w : List Ent
def Actn.rds (x : Actn) (f t : Int) : List Ent := x.rk.map fun key => ⟨key, if key = x.src then f else t⟩
def sort2 (a b : Ent) : List Ent := if a.k < b.k then [a, b] else [b, a]
def Actn.don (x : Actn) (f t : Int) : Bool := if x.kind = 5 then decide (f + t ≤ 1000000) else if x.kind = 2 then decide (x.amt ≤ f) && (decide (x.src = x.dst) || decide (t + x.amt ≤ 1000000)) else true
def Actn.wrs (x : Actn) (f t : Int) : List Ent :=
  if x.kind = 1 then [⟨x.src, x.amt⟩] else if x.kind = 6 then [⟨x.src, max 0 (f - x.amt)⟩] else if x.kind = 3 then [⟨x.dst, f⟩] else if x.kind = 5 then [⟨x.dst, f + t⟩]
  else if x.src = x.dst then [⟨x.dst, f⟩] else if x.kind = 4 then sort2 ⟨x.src, t⟩ ⟨x.dst, f⟩ else sort2 ⟨x.src, f - x.amt⟩ ⟨x.dst, t + x.amt⟩
def runE (x : Actn) (f t : Int) : Eff := ⟨x.don f t, x.rds f t, if x.don f t = true then x.wrs f t else []⟩
theorem one_ok {least k v : Int} (k0 : 0 ≤ k) (k1 : k ≤ 31) (v0 : least ≤ v) (v1 : v ≤ 1000000) : entsOk least [⟨k, v⟩] = true :=
  entsOk_of (by simp) (by intro x hx; simp at hx; subst hx; exact ⟨k0, k1, v0, v1⟩)
theorem sort2_ok {least : Int} {a b : Ent} (hne : a.k ≠ b.k) (a0 : 0 ≤ a.k) (a1 : a.k ≤ 31) (a2 : least ≤ a.v) (a3 : a.v ≤ 1000000) (b0 : 0 ≤ b.k) (b1 : b.k ≤ 31) (b2 : least ≤ b.v) (b3 : b.v ≤ 1000000) : entsOk least (sort2 a b) = true := by
  unfold sort2
  split
  · refine entsOk_of (by simp; assumption) (by intro x hx; simp at hx; rcases hx with rfl | rfl <;> omega)
  · refine entsOk_of (by simp; omega) (by intro x hx; simp at hx; rcases hx with rfl | rfl <;> omega)
theorem runE_ok {x : Actn} {f t : Int} (h : x.ok = true) (f0 : 0 ≤ f) (f1 : f ≤ 1000000) (t0 : 0 ≤ t) (t1 : t ≤ 1000000) : entsOk 0 (runE x f t).w = true := by
  simp only [Actn.ok, Bool.and_eq_true, inR_iff] at h
  obtain ⟨⟨s0, s1⟩, ⟨d0, d1⟩, ⟨a0, a1⟩, hko⟩ := h
  unfold runE
  dsimp only
  split
  · rename_i hd
    unfold Actn.don at hd
    unfold Actn.wrs
    split
    · exact one_ok s0 s1 a0 a1
    split
    · exact one_ok s0 s1 (by omega) (by omega)
    split
    · exact one_ok d0 d1 f0 f1
    split
    · rename_i h5
      rw [if_pos h5, decide_eq_true_eq] at hd
      exact one_ok d0 d1 (by omega) hd
    split
    · exact one_ok d0 d1 f0 f1
    split
    · exact sort2_ok (by assumption) s0 s1 t0 t1 d0 d1 f0 f1
    · rename_i h1 h6 h3 h5 hsd h4
      rw [if_neg h5] at hd
      split at hd
      · simp only [Bool.and_eq_true, Bool.or_eq_true, decide_eq_true_eq] at hd
        exact sort2_ok (by assumption) s0 s1 (by show (0 : Int) ≤ f - x.amt; omega) (by show f - x.amt ≤ 1000000; omega) d0 d1 (by show (0 : Int) ≤ t + x.amt; omega) (by show t + x.amt ≤ 1000000; rcases hd.2 with h | h; exact absurd h hsd; exact h)
      · rename_i h2
        unfold kindOk at hko
        rw [if_neg (by omega), if_neg (by omega), decide_eq_true_eq] at hko
        exact absurd hko h2
  · rfl
def runV (v : List Int) (x : Actn) : Eff := runE x (v.getD x.src.toNat 0) (v.getD x.dst.toNat 0)
/-- Actions one after the other. -/
def runStep (p : List Int × List Eff) (x : Actn) : List Int × List Eff := (vsets p.1 (runV p.1 x).w, p.2 ++ [runV p.1 x])
def runAll (v : List Int) (l : List Actn) : List Int × List Eff := l.foldl runStep (v, [])
theorem runAll_snoc (v : List Int) {l : List Actn} {k : Nat} {x : Actn} (h : l[k]? = some x) : runAll v (l.take (k + 1)) = runStep (runAll v (l.take k)) x := by
  rw [List.take_add_one, h]; simp [runAll]
theorem runV_ok {v : List Int} (hv : valsIn v) {x : Actn} (h : x.ok = true) : entsOk 0 (runV v x).w = true :=
  runE_ok h (valsIn_get hv _).1 (valsIn_get hv _).2 (valsIn_get hv _).1 (valsIn_get hv _).2
theorem runStep_in {p : List Int × List Eff} (hv : valsIn p.1) {x : Actn} (h : x.ok = true) : valsIn (runStep p x).1 :=
  valsIn_vsets (fun y hy => by have := entsOk_mem (runV_ok hv h) hy; exact ⟨this.2.2.1, this.2.2.2⟩) hv
theorem runAll_in {v : List Int} (hv : valsIn v) : ∀ {l : List Actn}, (∀ x ∈ l, x.ok = true) → valsIn (runAll v l).1 := by
  have key : ∀ (l : List Actn) (p : List Int × List Eff), valsIn p.1 → (∀ x ∈ l, x.ok = true) → valsIn (l.foldl runStep p).1 := by
    intro l
    induction l with
    | nil => intro p h _; exact h
    | cons x l ih => intro p h hl; exact ih _ (runStep_in h (hl x (by simp))) fun y hy => hl y (by simp [hy])
  intro l hl
  exact key l (v, []) hv hl
/-- The reference's way: entry by entry into the store. -/
def putAll (s : List Ent) (u : List Ent) : List Ent := u.foldl (fun s e => putF (decide (e.v = 0)) e.k e.v s) s
theorem putAll_snoc (s : List Ent) {u : List Ent} {k : Nat} {e : Ent} (h : u[k]? = some e) : putAll s (u.take (k + 1)) = putF (decide (e.v = 0)) e.k e.v (putAll s (u.take k)) := by
  rw [List.take_add_one, h]; simp [putAll]
theorem putAll_cons (s : List Ent) (e : Ent) (u : List Ent) : putAll s (e :: u) = putAll (putF (decide (e.v = 0)) e.k e.v s) u := by unfold putAll; rw [List.foldl_cons]
theorem putAll_store : ∀ {u : List Ent} {v : List Int}, valsIn v → (∀ e ∈ u, 0 ≤ e.k ∧ e.k ≤ 31 ∧ 0 ≤ e.v ∧ e.v ≤ 1000000) → putAll (storeOf v) u = storeOf (vsets v u)
  | [], v, _, _ => rfl
  | e :: u, v, h, hu => by
    have he := hu e (by simp)
    rw [putAll_cons, putF_store h he.1 he.2.1 he.2.2.1 he.2.2.2]
    rw [show vsets v (e :: u) = vsets (vset v e) u from rfl]
    exact putAll_store (valsIn_set h ⟨he.2.2.1, he.2.2.2⟩) fun e' he' => hu e' (by simp [he'])
theorem runE_store {v : List Int} (hv : valsIn v) {x : Actn} (h : x.ok = true) : runE x (atK (storeOf v) x.src) (atK (storeOf v) x.dst) = runV v x := by
  simp only [Actn.ok, Bool.and_eq_true, inR_iff] at h
  obtain ⟨⟨s0, s1⟩, ⟨d0, d1⟩, _⟩ := h
  have h1 := atK_storeOf hv (n := x.src.toNat) (by omega)
  have h2 := atK_storeOf hv (n := x.dst.toNat) (by omega)
  rw [show ((x.src.toNat : Nat) : Int) = x.src from by omega] at h1
  rw [show ((x.dst.toNat : Nat) : Int) = x.dst from by omega] at h2
  rw [h1, h2]; rfl
end Go.Proofs.Ytnknamddonjnjaa
