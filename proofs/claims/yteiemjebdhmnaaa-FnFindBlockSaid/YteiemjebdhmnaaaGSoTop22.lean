/- Walks: slices.Grow and slices.Concat at entries; sums of effects, the program's side (printed by wip/mkcnc.py). -/
import Derived.Test.YteiemjebdhmnaaaGSoTop10
import Derived.Test.YteiemjebdhmnaaaGSoTop04
import Derived.Test.YteiemjebdhmnaaaGSoTop20
import Derived.Test.YteiemjebdhmnaaaGSoTop08
import Derived.Test.YteiemjebdhmnaaaGSoTop02
import Derived.Lib.AppendZeros
set_option linter.unusedSimpArgs false
set_option linter.unusedVariables false
namespace Go.Proofs.Yteiemjebdhmnaaa
open Go Go.RowKit Go.Proofs

set_option maxRecDepth 100000 in
set_option maxHeartbeats 1000000 in
theorem grow_nil (n : Nat) (w : World) (hn : n ≤ 1000000) :
    Calls Try.prog 111 #[.slice none 0 0, .int .i64 n] w fun e w' => ∃ v', e = .returned v' ∧ Up w w' ∧ Own Ent.enc 61 2 w.heap.size w' v' [] := by
  obtain ⟨i, z, hi, hz, hsize, hby, hzs⟩ := fEnt.info
  by_cases h0 : n = 0
  · subst h0
    go_enter Try.func111, Try.ntmps111
    go_wp2_with fail
    go_ret
    exact ⟨_, rfl, (.of (by repeat (first | (with_reducible exact Ext.refl _) | (with_reducible refine Ext.up ?_ _) | (with_reducible refine Ext.alloc ?_ _) | (with_reducible refine Ext.drew ?_) | (with_reducible refine Ext.setRow ?_ (by first | exact LeS.le | exact LeS.add _ | (simp; done) | (simp; omega)) _) | (with_reducible refine Ext.setCell ?_ (by first | exact LeS.le | exact LeS.add _ | (simp; done) | (simp; omega)) _)))), Own.nil _ _ _ _ _⟩
  · have n0 : (0 : Int) < (n : Int) := by omega
    have n1 : ¬ ((n : Int) < 0) := by omega
    have hr := Lib.run_append_nil_zeros (P := Try.prog) w 23 3 23 61 i z .i64 .i64 fEnt.und Try.underlying3 hi hz n (by omega) (by rw [hsize]; decide) (by omega) (by rw [hby]; omega)
    obtain ⟨zc, hzc⟩ : ∃ zc, zc = z.cells := ⟨_, rfl⟩
    rw [← hzc] at hr hzs
    have Hr := Lib.hid hr; clear hr hzc hz hi
    go_enter Try.func111, Try.ntmps111
    go_wp2_with (refine Lib.wpList_append_run w rfl (.tmp 20) (.tmp 21) 23 3 rfl _ _ rfl rfl _ _ Hr.out ?_)
    go_ret
    refine ⟨_, rfl, (.of (by repeat (first | (with_reducible exact Ext.refl _) | (with_reducible refine Ext.up ?_ _) | (with_reducible refine Ext.alloc ?_ _) | (with_reducible refine Ext.drew ?_) | (with_reducible refine Ext.setRow ?_ (by first | exact LeS.le | exact LeS.add _ | (simp; done) | (simp; omega)) _) | (with_reducible refine Ext.setCell ?_ (by first | exact LeS.le | exact LeS.add _ | (simp; done) | (simp; omega)) _)))), ?_⟩
    have hge := grownCap_ge w n 0 61
    have hcm := grownCap_le_maxLen w n 0 61 (by unfold maxLen; omega)
    refine ⟨by simp, .inr ⟨w.heap.size, grownCap w n 0 61, _, rfl, Nat.le_refl _, heap_alloc_new w _, Nat.zero_le _, hcm, ?_, by simp⟩⟩
    simp only [Array.size_append, size_zeroCells, hzs, ← Nat.add_mul]
    congr 1
    omega
set_option maxRecDepth 100000 in
set_option maxHeartbeats 1000000 in
theorem concat2 (a b : List Ent) (v1 v2 : Value) (q : Nat) (w : World) (h1 : SL (RF Ent.enc) 2 w v1 a) (h2 : SL (RF Ent.enc) 2 w v2 b) (c0 : w.cell? ⟨q, 0, none⟩ = some v1) (c1 : w.cell? ⟨q, 1, none⟩ = some v2) (ha : a.length ≤ 10000) (hb : b.length ≤ 10000) :
    Calls Try.prog 90 #[.slice (some ⟨q, 0, none⟩) 2 2] w fun e w' => ∃ v', e = .returned v' ∧ Up w w' ∧ Own Ent.enc 61 2 w.heap.size w' v' (a ++ b) := by
  have H1 := Lib.hid h1; have H2 := Lib.hid h2
  obtain ⟨p1, k1, rfl, _, _⟩ := h1.openc
  obtain ⟨p2, k2, rfl, _, _⟩ := h2.openc
  have hL : LtS q w := LtS.of_some c0
  clear h1 h2
  go_enter Try.func90, Try.ntmps90
  go_wp2_with fail
  go_loopw [3, 11] (fun s3 s11 wr => Up w wr ∧ ((s11 = .int .i64 0 ∧ s3 = .int .i64 0) ∨ (s11 = .int .i64 1 ∧ s3 = .int .i64 a.length) ∨ (s11 = .int .i64 2 ∧ s3 = .int .i64 ((a.length + b.length : Nat) : Int)))) (fun _ s11 _ => 2 - (intOf s11).toNat)
  case atStart => exact ⟨(.of (by repeat (first | (with_reducible exact Ext.refl _) | (with_reducible refine Ext.up ?_ _) | (with_reducible refine Ext.alloc ?_ _) | (with_reducible refine Ext.drew ?_) | (with_reducible refine Ext.setRow ?_ (by first | exact LeS.le | exact LeS.add _ | (simp; done) | (simp; omega)) _) | (with_reducible refine Ext.setCell ?_ (by first | exact LeS.le | exact LeS.add _ | (simp; done) | (simp; omega)) _)))), .inl ⟨rfl, rfl⟩⟩
  case round =>
    obtain ⟨⟨zz, rfl⟩, hrel⟩ := hrel
    rcases hrel with ⟨rfl, rfl⟩ | ⟨rfl, rfl⟩ | ⟨rfl, rfl⟩
    · have g1 : ¬ ((a.length : Int) < 0) := by omega
      go_wp2_with fail
      go_roundw
      case rel => exact ⟨⟨zz, rfl⟩, .inr (.inl ⟨by go_num, by go_num⟩)⟩
      case measure => simp [intOf]
    · have g1 : ¬ ((a.length : Int) + (b.length : Int) < 0) := by omega
      go_wp2_with fail
      go_roundw
      case rel => exact ⟨⟨zz, rfl⟩, .inr (.inr ⟨by go_num, by go_num⟩)⟩
      case measure => simp [intOf]
    · go_wp2_with fail
      refine (grow_nil (a.length + b.length) _ (by omega)).mono ?_; rintro e w' ⟨v0, rfl, ⟨z1, rfl⟩, o0⟩
      have O0 := Lib.hid (o0.lo (lo' := w.heap.size) LeS.le); clear o0
      go_wp2_with fail
      go_loopw [6, 27] (fun s6 s27 wr => Up w wr ∧ ((s27 = .int .i64 0 ∧ Own Ent.enc 61 2 w.heap.size wr s6 []) ∨ (s27 = .int .i64 1 ∧ Own Ent.enc 61 2 w.heap.size wr s6 a) ∨ (s27 = .int .i64 2 ∧ Own Ent.enc 61 2 w.heap.size wr s6 (a ++ b)))) (fun _ s27 _ => 2 - (intOf s27).toNat)
      case atStart => exact ⟨(.of (by repeat (first | (with_reducible exact Ext.refl _) | (with_reducible refine Ext.up ?_ _) | (with_reducible refine Ext.alloc ?_ _) | (with_reducible refine Ext.drew ?_) | (with_reducible refine Ext.setRow ?_ (by first | exact LeS.le | exact LeS.add _ | (simp; done) | (simp; omega)) _) | (with_reducible refine Ext.setCell ?_ (by first | exact LeS.le | exact LeS.add _ | (simp; done) | (simp; omega)) _)))), .inl ⟨rfl, O0.out⟩⟩
      case round =>
        obtain ⟨⟨z, rfl⟩, hrel⟩ := hrel
        rcases hrel with ⟨rfl, ho⟩ | ⟨rfl, ho⟩ | ⟨rfl, ho⟩
        · have HO := Lib.hid ho; clear ho
          go_wp2_with (at_builtin; refine wpList_catA fEnt rfl (.tmp 31) (.tmp 32) rfl Ent.enc Ent.enc_length w (lo := w.heap.size) a [] rfl HO.out (by repeat (first | (with_reducible exact Ext.refl _) | (with_reducible refine Ext.up ?_ _) | (with_reducible refine Ext.alloc ?_ _) | (with_reducible refine Ext.drew ?_) | (with_reducible refine Ext.setRow ?_ (by first | exact LeS.le | exact LeS.add _ | (simp; done) | (simp; omega)) _) | (with_reducible refine Ext.setCell ?_ (by first | exact LeS.le | exact LeS.add _ | (simp; done) | (simp; omega)) _))) (Nat.le_refl _) LeS.le rfl (H1.out.up (by repeat (first | (with_reducible exact Ext.refl _) | (with_reducible refine Ext.up ?_ _) | (with_reducible refine Ext.alloc ?_ _) | (with_reducible refine Ext.drew ?_) | (with_reducible refine Ext.setRow ?_ (by first | exact LeS.le | exact LeS.add _ | (simp; done) | (simp; omega)) _) | (with_reducible refine Ext.setCell ?_ (by first | exact LeS.le | exact LeS.add _ | (simp; done) | (simp; omega)) _)))) (oneEs' _) (by simp; omega) (by simp; omega) ?_; intro v7 z7 o7 g7 b7; clear g7 b7)
          have O7 := Lib.hid o7; clear o7
          go_wp2_with fail
          go_roundw
          case rel => exact ⟨⟨z7, rfl⟩, .inr (.inl ⟨by go_num, O7.out⟩)⟩
          case measure => simp [intOf]
        · have HO := Lib.hid ho; clear ho
          go_wp2_with (at_builtin; refine wpList_catA fEnt rfl (.tmp 31) (.tmp 32) rfl Ent.enc Ent.enc_length w (lo := w.heap.size) b a rfl HO.out (by repeat (first | (with_reducible exact Ext.refl _) | (with_reducible refine Ext.up ?_ _) | (with_reducible refine Ext.alloc ?_ _) | (with_reducible refine Ext.drew ?_) | (with_reducible refine Ext.setRow ?_ (by first | exact LeS.le | exact LeS.add _ | (simp; done) | (simp; omega)) _) | (with_reducible refine Ext.setCell ?_ (by first | exact LeS.le | exact LeS.add _ | (simp; done) | (simp; omega)) _))) (Nat.le_refl _) LeS.le rfl (H2.out.up (by repeat (first | (with_reducible exact Ext.refl _) | (with_reducible refine Ext.up ?_ _) | (with_reducible refine Ext.alloc ?_ _) | (with_reducible refine Ext.drew ?_) | (with_reducible refine Ext.setRow ?_ (by first | exact LeS.le | exact LeS.add _ | (simp; done) | (simp; omega)) _) | (with_reducible refine Ext.setCell ?_ (by first | exact LeS.le | exact LeS.add _ | (simp; done) | (simp; omega)) _)))) (oneEs' _) (by omega) (by omega) ?_; intro v7 z7 o7 g7 b7; clear g7 b7)
          have O7 := Lib.hid o7; clear o7
          go_wp2_with fail
          go_roundw
          case rel => exact ⟨⟨z7, rfl⟩, .inr (.inr ⟨by go_num, O7.out⟩)⟩
          case measure => simp [intOf]
        · have HO := Lib.hid ho; clear ho
          go_wp2_with fail
          go_ret
          exact ⟨_, rfl, ⟨z, rfl⟩, HO.out⟩
theorem entNums_append (a b : List Ent) : entNums (a ++ b) = entNums a ++ entNums b := by unfold entNums; rw [List.flatMap_append]
theorem own_row {α : Type} {enc : α → List Value} {e sz lo g n : Nat} {W : World} {cs : Array Value} {l : List α} (hrow : W.heap[g]? = some (.cells cs e (0, 0))) (hlo : lo ≤ g) (hn : n = l.length) (hcs : cs.toList = l.flatMap enc) (he : ∀ x, (enc x).length = sz) (h63 : n ≤ maxLen) : Own enc e sz lo W (.slice (some ⟨g, 0, none⟩) n n) l := by
  subst hn
  have hl := flatMap_length he l
  have hs : cs.size = l.length * sz := by rw [← hl, ← hcs]; simp
  refine ⟨hl, .inr ⟨g, l.length, cs, rfl, hlo, hrow, Nat.le_refl _, h63, hs, ?_⟩⟩
  rw [hcs, ← hl, List.take_length]
set_option maxRecDepth 100000 in
set_option maxHeartbeats 4000000 in
theorem iEffectSum_any (d : Bool) (vr vw : Value) (r u : List Ent) (w : World) (hr : SL (RF Ent.enc) 2 w vr r) (hu : SL (RF Ent.enc) 2 w vw u) (hrl : r.length ≤ 1000) (hul : u.length ≤ 1000) :
    Calls Try.prog 58 #[.agg #[.bool d, vr, vw]] w fun e w' => e = .returned (.int .i64 (effSum ⟨d, r, u⟩)) ∧ Up w w' := by
  have HR := Lib.hid hr; have HU := Lib.hid hu
  obtain ⟨p1, c1, rfl, _, _⟩ := hr.openc
  obtain ⟨p2, c2, rfl, _, _⟩ := hu.openc
  clear hr hu
  have hen := Lib.hid (entNums_append r u)
  have hcl : (r ++ u).length ≤ 2000 := by simp; omega
  unfold effSum
  go_enter Try.func58, Try.ntmps58
  rcases d with _ | _
  · go_wp2_with fail
    refine (concat2 r u _ _ _ _ (HR.out.up (by repeat (first | (with_reducible exact Ext.refl _) | (with_reducible refine Ext.up ?_ _) | (with_reducible refine Ext.alloc ?_ _) | (with_reducible refine Ext.drew ?_) | (with_reducible refine Ext.setRow ?_ (by first | exact LeS.le | exact LeS.add _ | (simp; done) | (simp; omega)) _) | (with_reducible refine Ext.setCell ?_ (by first | exact LeS.le | exact LeS.add _ | (simp; done) | (simp; omega)) _)))) (HU.out.up (by repeat (first | (with_reducible exact Ext.refl _) | (with_reducible refine Ext.up ?_ _) | (with_reducible refine Ext.alloc ?_ _) | (with_reducible refine Ext.drew ?_) | (with_reducible refine Ext.setRow ?_ (by first | exact LeS.le | exact LeS.add _ | (simp; done) | (simp; omega)) _) | (with_reducible refine Ext.setCell ?_ (by first | exact LeS.le | exact LeS.add _ | (simp; done) | (simp; omega)) _)))) (by go_simp) (by go_simp) (by omega) (by omega)).mono ?_; rintro e w' ⟨vc, rfl, ⟨z1, rfl⟩, oc⟩
    have hrow : z1.val.heap[w.heap.size + 1]? = some (.cells #[.int .i64 0, .int .i64 r.length] 3 (0, 0)) := (Extd.row z1 _).trans (row3 _ _ _ _).2
    have o0 : Own encI 3 1 w.heap.size z1.val (.slice (some ⟨w.heap.size + 1, 0, none⟩) 2 2) [0, (r.length : Int)] := own_row hrow (by omega) rfl rfl encI_length (by decide)
    have ap0 : Apart vc (.slice (some ⟨w.heap.size + 1, 0, none⟩) 2 2) := oc.ne_rb (by simp [setCell_sz])
    have oc0 := oc.lo (lo' := w.heap.size) (by simp [setCell_sz]; omega)
    obtain ⟨cs, hcs⟩ : ∃ cs, cs = r ++ u := ⟨_, rfl⟩
    rw [← hcs] at oc0 hcl
    obtain ⟨pc, cc, rfl, _, _⟩ := (oc0.sl Ent.enc_length).openc
    have hfin : [0, (r.length : Int)] ++ entNums cs = effNums ⟨false, r, u⟩ := by rw [hcs, hen.out]; simp [effNums]
    have Hfin := Lib.hid hfin
    have O0 := Lib.hid o0; have OC0 := Lib.hid oc0; have AP0 := Lib.hid ap0
    clear hrow o0 oc oc0 ap0 hcs hfin hen
    go_wp2_with fail
    go_loopw [3, 21] (fun s3 s21 wr => ∃ k : Nat, s21 = .int .i64 k ∧ k ≤ cs.length ∧ Up w wr ∧ Own encI 3 1 w.heap.size wr s3 ([0, (r.length : Int)] ++ entNums (cs.take k)) ∧ Own Ent.enc 61 2 w.heap.size wr (.slice pc cs.length cc) cs ∧ Apart (.slice pc cs.length cc) s3) (fun _ s21 _ => cs.length - (intOf s21).toNat)
    case atStart => exact ⟨0, rfl, Nat.zero_le _, (.of (by repeat (first | (with_reducible exact Ext.refl _) | (with_reducible refine Ext.up ?_ _) | (with_reducible refine Ext.alloc ?_ _) | (with_reducible refine Ext.drew ?_) | (with_reducible refine Ext.setRow ?_ (by first | exact LeS.le | exact LeS.add _ | (simp; done) | (simp; omega)) _) | (with_reducible refine Ext.setCell ?_ (by first | exact LeS.le | exact LeS.add _ | (simp; done) | (simp; omega)) _)))), by simpa [entNums] using O0.out, OC0.out, AP0.out⟩
    case round =>
      obtain ⟨k, rfl, hk, ⟨z, rfl⟩, hown, hoc, hap⟩ := hrel
      have Hown := Lib.hid hown; have Hoc := Lib.hid hoc; have Hap := Lib.hid hap
      by_cases hlt : k < cs.length
      · obtain ⟨x, hxk⟩ := getElem?_some_of_lt hlt
        obtain ⟨p9, c9, hv9, _, hcc⟩ := (hoc.sl Ent.enc_length).open
        cases hv9
        obtain ⟨b, off, rfl, hb, hc2⟩ := hcc k x hxk
        have e0 : z.val.cell? ⟨b, off + k * 2, none⟩ = some (.int .i64 x.k) := hc2 0 _ rfl
        have e1 : z.val.cell? ⟨b, off + k * 2 + 1, none⟩ = some (.int .i64 x.v) := hc2 1 _ rfl
        have Hx := Lib.hid (entNums_snoc hxk)
        have hle : ([0, (r.length : Int)] ++ entNums (cs.take k)).length ≤ 10000 := by simp only [List.length_append, entNums_length, List.length_take, List.length_cons, List.length_nil]; omega
        clear hown hoc hap hcc hc2 hxk
        generalize hM : [0, (r.length : Int)] ++ entNums (cs.take k) = M at *
        have HM := Lib.hid hM; clear hM
        go_wp2_with (at_builtin; refine wpList_pushG fI rfl (.tmp 25) (.tmp 30) rfl encI encI_length w (lo := w.heap.size) [x.k, x.v] M rfl (Hown.out.up (by repeat (first | (with_reducible exact Ext.refl _) | (with_reducible refine Ext.up ?_ _) | (with_reducible refine Ext.alloc ?_ _) | (with_reducible refine Ext.drew ?_) | (with_reducible refine Ext.setRow ?_ (by first | exact LeS.le | exact LeS.add _ | (simp; done) | (simp; omega)) _) | (with_reducible refine Ext.setCell ?_ (by first | exact LeS.le | exact LeS.add _ | (simp; done) | (simp; omega)) _)))) (by repeat (first | (with_reducible exact Ext.refl _) | (with_reducible refine Ext.up ?_ _) | (with_reducible refine Ext.alloc ?_ _) | (with_reducible refine Ext.drew ?_) | (with_reducible refine Ext.setRow ?_ (by first | exact LeS.le | exact LeS.add _ | (simp; done) | (simp; omega)) _) | (with_reducible refine Ext.setCell ?_ (by first | exact LeS.le | exact LeS.add _ | (simp; done) | (simp; omega)) _))) (Nat.le_refl _) LeS.le rfl rfl (by go_simp) rfl (oneIs _) (by simp; omega) (by simp; omega) ?_; intro v7 z7 o7 g7 b7)
        have OC7 := Lib.hid (Own.keep (Hoc.out.up (by repeat (first | (with_reducible exact Ext.refl _) | (with_reducible refine Ext.up ?_ _) | (with_reducible refine Ext.alloc ?_ _) | (with_reducible refine Ext.drew ?_) | (with_reducible refine Ext.setRow ?_ (by first | exact LeS.le | exact LeS.add _ | (simp; done) | (simp; omega)) _) | (with_reducible refine Ext.setCell ?_ (by first | exact LeS.le | exact LeS.add _ | (simp; done) | (simp; omega)) _)))) g7 Hap.out)
        have AP7 := Lib.hid (Apart.grown (Own.up Hoc.out (by repeat (first | (with_reducible exact Ext.refl _) | (with_reducible refine Ext.up ?_ _) | (with_reducible refine Ext.alloc ?_ _) | (with_reducible refine Ext.drew ?_) | (with_reducible refine Ext.setRow ?_ (by first | exact LeS.le | exact LeS.add _ | (simp; done) | (simp; omega)) _) | (with_reducible refine Ext.setCell ?_ (by first | exact LeS.le | exact LeS.add _ | (simp; done) | (simp; omega)) _)))) Hap.out (Nat.le_refl _) b7)
        have O7 := Lib.hid o7; clear o7 g7 b7
        go_wp2_with fail
        go_roundw
        case rel => exact ⟨k + 1, by go_num, by omega, ⟨z7, rfl⟩, by rw [Hx.out, ← List.append_assoc, HM.out]; exact O7.out, OC7.out, AP7.out⟩
        case measure => simp [intOf]; omega
      · obtain rfl : k = cs.length := by omega
        rw [List.take_length, Hfin.out] at Hown
        clear hown hoc hap
        go_wp2_with (go_at_call 42; refine (sumOf_any 3 _ _ _ (Hown.out.sl encI_length)).mono ?_; rintro e w' ⟨rfl, z9, rfl⟩)
        go_ret
        exact ⟨rfl, (.of (by repeat (first | (with_reducible exact Ext.refl _) | (with_reducible refine Ext.up ?_ _) | (with_reducible refine Ext.alloc ?_ _) | (with_reducible refine Ext.drew ?_) | (with_reducible refine Ext.setRow ?_ (by first | exact LeS.le | exact LeS.add _ | (simp; done) | (simp; omega)) _) | (with_reducible refine Ext.setCell ?_ (by first | exact LeS.le | exact LeS.add _ | (simp; done) | (simp; omega)) _))))⟩
  · go_wp2_with fail
    refine (concat2 r u _ _ _ _ (HR.out.up (by repeat (first | (with_reducible exact Ext.refl _) | (with_reducible refine Ext.up ?_ _) | (with_reducible refine Ext.alloc ?_ _) | (with_reducible refine Ext.drew ?_) | (with_reducible refine Ext.setRow ?_ (by first | exact LeS.le | exact LeS.add _ | (simp; done) | (simp; omega)) _) | (with_reducible refine Ext.setCell ?_ (by first | exact LeS.le | exact LeS.add _ | (simp; done) | (simp; omega)) _)))) (HU.out.up (by repeat (first | (with_reducible exact Ext.refl _) | (with_reducible refine Ext.up ?_ _) | (with_reducible refine Ext.alloc ?_ _) | (with_reducible refine Ext.drew ?_) | (with_reducible refine Ext.setRow ?_ (by first | exact LeS.le | exact LeS.add _ | (simp; done) | (simp; omega)) _) | (with_reducible refine Ext.setCell ?_ (by first | exact LeS.le | exact LeS.add _ | (simp; done) | (simp; omega)) _)))) (by go_simp) (by go_simp) (by omega) (by omega)).mono ?_; rintro e w' ⟨vc, rfl, ⟨z1, rfl⟩, oc⟩
    have hrow : z1.val.heap[w.heap.size + 1]? = some (.cells #[.int .i64 1, .int .i64 r.length] 3 (0, 0)) := (Extd.row z1 _).trans (row3 _ _ _ _).2
    have o0 : Own encI 3 1 w.heap.size z1.val (.slice (some ⟨w.heap.size + 1, 0, none⟩) 2 2) [1, (r.length : Int)] := own_row hrow (by omega) rfl rfl encI_length (by decide)
    have ap0 : Apart vc (.slice (some ⟨w.heap.size + 1, 0, none⟩) 2 2) := oc.ne_rb (by simp [setCell_sz])
    have oc0 := oc.lo (lo' := w.heap.size) (by simp [setCell_sz]; omega)
    obtain ⟨cs, hcs⟩ : ∃ cs, cs = r ++ u := ⟨_, rfl⟩
    rw [← hcs] at oc0 hcl
    obtain ⟨pc, cc, rfl, _, _⟩ := (oc0.sl Ent.enc_length).openc
    have hfin : [1, (r.length : Int)] ++ entNums cs = effNums ⟨true, r, u⟩ := by rw [hcs, hen.out]; simp [effNums]
    have Hfin := Lib.hid hfin
    have O0 := Lib.hid o0; have OC0 := Lib.hid oc0; have AP0 := Lib.hid ap0
    clear hrow o0 oc oc0 ap0 hcs hfin hen
    go_wp2_with fail
    go_loopw [3, 21] (fun s3 s21 wr => ∃ k : Nat, s21 = .int .i64 k ∧ k ≤ cs.length ∧ Up w wr ∧ Own encI 3 1 w.heap.size wr s3 ([1, (r.length : Int)] ++ entNums (cs.take k)) ∧ Own Ent.enc 61 2 w.heap.size wr (.slice pc cs.length cc) cs ∧ Apart (.slice pc cs.length cc) s3) (fun _ s21 _ => cs.length - (intOf s21).toNat)
    case atStart => exact ⟨0, rfl, Nat.zero_le _, (.of (by repeat (first | (with_reducible exact Ext.refl _) | (with_reducible refine Ext.up ?_ _) | (with_reducible refine Ext.alloc ?_ _) | (with_reducible refine Ext.drew ?_) | (with_reducible refine Ext.setRow ?_ (by first | exact LeS.le | exact LeS.add _ | (simp; done) | (simp; omega)) _) | (with_reducible refine Ext.setCell ?_ (by first | exact LeS.le | exact LeS.add _ | (simp; done) | (simp; omega)) _)))), by simpa [entNums] using O0.out, OC0.out, AP0.out⟩
    case round =>
      obtain ⟨k, rfl, hk, ⟨z, rfl⟩, hown, hoc, hap⟩ := hrel
      have Hown := Lib.hid hown; have Hoc := Lib.hid hoc; have Hap := Lib.hid hap
      by_cases hlt : k < cs.length
      · obtain ⟨x, hxk⟩ := getElem?_some_of_lt hlt
        obtain ⟨p9, c9, hv9, _, hcc⟩ := (hoc.sl Ent.enc_length).open
        cases hv9
        obtain ⟨b, off, rfl, hb, hc2⟩ := hcc k x hxk
        have e0 : z.val.cell? ⟨b, off + k * 2, none⟩ = some (.int .i64 x.k) := hc2 0 _ rfl
        have e1 : z.val.cell? ⟨b, off + k * 2 + 1, none⟩ = some (.int .i64 x.v) := hc2 1 _ rfl
        have Hx := Lib.hid (entNums_snoc hxk)
        have hle : ([1, (r.length : Int)] ++ entNums (cs.take k)).length ≤ 10000 := by simp only [List.length_append, entNums_length, List.length_take, List.length_cons, List.length_nil]; omega
        clear hown hoc hap hcc hc2 hxk
        generalize hM : [1, (r.length : Int)] ++ entNums (cs.take k) = M at *
        have HM := Lib.hid hM; clear hM
        go_wp2_with (at_builtin; refine wpList_pushG fI rfl (.tmp 25) (.tmp 30) rfl encI encI_length w (lo := w.heap.size) [x.k, x.v] M rfl (Hown.out.up (by repeat (first | (with_reducible exact Ext.refl _) | (with_reducible refine Ext.up ?_ _) | (with_reducible refine Ext.alloc ?_ _) | (with_reducible refine Ext.drew ?_) | (with_reducible refine Ext.setRow ?_ (by first | exact LeS.le | exact LeS.add _ | (simp; done) | (simp; omega)) _) | (with_reducible refine Ext.setCell ?_ (by first | exact LeS.le | exact LeS.add _ | (simp; done) | (simp; omega)) _)))) (by repeat (first | (with_reducible exact Ext.refl _) | (with_reducible refine Ext.up ?_ _) | (with_reducible refine Ext.alloc ?_ _) | (with_reducible refine Ext.drew ?_) | (with_reducible refine Ext.setRow ?_ (by first | exact LeS.le | exact LeS.add _ | (simp; done) | (simp; omega)) _) | (with_reducible refine Ext.setCell ?_ (by first | exact LeS.le | exact LeS.add _ | (simp; done) | (simp; omega)) _))) (Nat.le_refl _) LeS.le rfl rfl (by go_simp) rfl (oneIs _) (by simp; omega) (by simp; omega) ?_; intro v7 z7 o7 g7 b7)
        have OC7 := Lib.hid (Own.keep (Hoc.out.up (by repeat (first | (with_reducible exact Ext.refl _) | (with_reducible refine Ext.up ?_ _) | (with_reducible refine Ext.alloc ?_ _) | (with_reducible refine Ext.drew ?_) | (with_reducible refine Ext.setRow ?_ (by first | exact LeS.le | exact LeS.add _ | (simp; done) | (simp; omega)) _) | (with_reducible refine Ext.setCell ?_ (by first | exact LeS.le | exact LeS.add _ | (simp; done) | (simp; omega)) _)))) g7 Hap.out)
        have AP7 := Lib.hid (Apart.grown (Own.up Hoc.out (by repeat (first | (with_reducible exact Ext.refl _) | (with_reducible refine Ext.up ?_ _) | (with_reducible refine Ext.alloc ?_ _) | (with_reducible refine Ext.drew ?_) | (with_reducible refine Ext.setRow ?_ (by first | exact LeS.le | exact LeS.add _ | (simp; done) | (simp; omega)) _) | (with_reducible refine Ext.setCell ?_ (by first | exact LeS.le | exact LeS.add _ | (simp; done) | (simp; omega)) _)))) Hap.out (Nat.le_refl _) b7)
        have O7 := Lib.hid o7; clear o7 g7 b7
        go_wp2_with fail
        go_roundw
        case rel => exact ⟨k + 1, by go_num, by omega, ⟨z7, rfl⟩, by rw [Hx.out, ← List.append_assoc, HM.out]; exact O7.out, OC7.out, AP7.out⟩
        case measure => simp [intOf]; omega
      · obtain rfl : k = cs.length := by omega
        rw [List.take_length, Hfin.out] at Hown
        clear hown hoc hap
        go_wp2_with (go_at_call 42; refine (sumOf_any 3 _ _ _ (Hown.out.sl encI_length)).mono ?_; rintro e w' ⟨rfl, z9, rfl⟩)
        go_ret
        exact ⟨rfl, (.of (by repeat (first | (with_reducible exact Ext.refl _) | (with_reducible refine Ext.up ?_ _) | (with_reducible refine Ext.alloc ?_ _) | (with_reducible refine Ext.drew ?_) | (with_reducible refine Ext.setRow ?_ (by first | exact LeS.le | exact LeS.add _ | (simp; done) | (simp; omega)) _) | (with_reducible refine Ext.setCell ?_ (by first | exact LeS.le | exact LeS.add _ | (simp; done) | (simp; omega)) _))))⟩
set_option maxRecDepth 100000 in
set_option maxHeartbeats 2000000 in
theorem iEffectsSum_any (es : List Eff) (v : Value) (w : World) (h : SE w v es) (hs : ∀ x ∈ es, x.r.length ≤ 1000 ∧ x.w.length ≤ 1000) :
    Calls Try.prog 22 #[v] w fun e w' => e = .returned (.int .i64 (effsSum es)) ∧ Up w w' := by
  obtain ⟨p, c, rfl, _, _, hc⟩ := h.open
  clear h
  have Hs := Lib.hid hs; clear hs
  by_cases h10 : es.length ≤ 10
  · have hq : decide ((10 : Int) < es.length) = false := by simp; omega
    have he : effsSum es = sumOf 4 (es.map effSum) := by unfold effsSum; rw [if_pos h10]
    rw [he]
    clear he
    go_enter Try.func22, Try.ntmps22
    go_wp2_with fail
    go_loopw [3, 11] (fun s3 s4 wr => ∃ k : Nat, s4 = .int .i64 k ∧ k ≤ es.length ∧ Up w wr ∧ Own encI 3 1 w.heap.size wr s3 ((es.take k).map effSum)) (fun _ s4 _ => es.length - (intOf s4).toNat)
    case atStart => exact ⟨0, rfl, Nat.zero_le _, (.of (by repeat (first | (with_reducible exact Ext.refl _) | (with_reducible refine Ext.up ?_ _) | (with_reducible refine Ext.alloc ?_ _) | (with_reducible refine Ext.drew ?_) | (with_reducible refine Ext.setRow ?_ (by first | exact LeS.le | exact LeS.add _ | (simp; done) | (simp; omega)) _) | (with_reducible refine Ext.setCell ?_ (by first | exact LeS.le | exact LeS.add _ | (simp; done) | (simp; omega)) _)))), Own.nil _ _ _ _ _⟩
    case round =>
      obtain ⟨k, rfl, hk, ⟨z, rfl⟩, hown⟩ := hrel
      have Hown := Lib.hid hown; clear hown
      have hlk : ((es.take k).map effSum).length ≤ 1000 := by rw [List.length_map, List.length_take]; omega
      by_cases hlt : k < es.length
      · obtain ⟨x, hxk⟩ := getElem?_some_of_lt hlt
        obtain ⟨b, off, q1, d1, q2, d2, rfl, hb, e0, e1, e2, s1, s2⟩ := hc k x hxk
        obtain ⟨l1, l2⟩ := Hs.out x (List.mem_of_getElem? hxk)
        have S1 := Lib.hid s1; have S2 := Lib.hid s2; have Hx := Lib.hid (effSums_snoc hxk)
        have k0 : (0 : Int) ≤ (k : Int) := by omega
        have k1 : (k : Int) < es.length := by omega
        clear hc hxk s1 s2
        go_wp2_with (first | (go_at_call 58; refine (iEffectSum_any x.d _ _ x.r x.w _ (S1.out.up (by repeat (first | (with_reducible exact Ext.refl _) | (with_reducible refine Ext.up ?_ _) | (with_reducible refine Ext.alloc ?_ _) | (with_reducible refine Ext.drew ?_) | (with_reducible refine Ext.setRow ?_ (by first | exact LeS.le | exact LeS.add _ | (simp; done) | (simp; omega)) _) | (with_reducible refine Ext.setCell ?_ (by first | exact LeS.le | exact LeS.add _ | (simp; done) | (simp; omega)) _)))) (S2.out.up (by repeat (first | (with_reducible exact Ext.refl _) | (with_reducible refine Ext.up ?_ _) | (with_reducible refine Ext.alloc ?_ _) | (with_reducible refine Ext.drew ?_) | (with_reducible refine Ext.setRow ?_ (by first | exact LeS.le | exact LeS.add _ | (simp; done) | (simp; omega)) _) | (with_reducible refine Ext.setCell ?_ (by first | exact LeS.le | exact LeS.add _ | (simp; done) | (simp; omega)) _)))) l1 l2).mono ?_; rintro e w' ⟨rfl, z1, rfl⟩) | (at_builtin; refine wpList_push1 fI rfl (.tmp 15) (.tmp 18) rfl encI w (effSum x) ((es.take k).map effSum) rfl (Hown.out.up (by repeat (first | (with_reducible exact Ext.refl _) | (with_reducible refine Ext.up ?_ _) | (with_reducible refine Ext.alloc ?_ _) | (with_reducible refine Ext.drew ?_) | (with_reducible refine Ext.setRow ?_ (by first | exact LeS.le | exact LeS.add _ | (simp; done) | (simp; omega)) _) | (with_reducible refine Ext.setCell ?_ (by first | exact LeS.le | exact LeS.add _ | (simp; done) | (simp; omega)) _)))) (by repeat (first | (with_reducible exact Ext.refl _) | (with_reducible refine Ext.up ?_ _) | (with_reducible refine Ext.alloc ?_ _) | (with_reducible refine Ext.drew ?_) | (with_reducible refine Ext.setRow ?_ (by first | exact LeS.le | exact LeS.add _ | (simp; done) | (simp; omega)) _) | (with_reducible refine Ext.setCell ?_ (by first | exact LeS.le | exact LeS.add _ | (simp; done) | (simp; omega)) _))) rfl (by go_simp) rfl rfl (oneI _) (by omega) (by omega) ?_; intro v7 z7 o7))
        have O7 := Lib.hid o7; clear o7
        go_wp2_with fail
        go_roundw
        case rel => exact ⟨k + 1, by go_num, by omega, (.of (by repeat (first | (with_reducible exact Ext.refl _) | (with_reducible refine Ext.up ?_ _) | (with_reducible refine Ext.alloc ?_ _) | (with_reducible refine Ext.drew ?_) | (with_reducible refine Ext.setRow ?_ (by first | exact LeS.le | exact LeS.add _ | (simp; done) | (simp; omega)) _) | (with_reducible refine Ext.setCell ?_ (by first | exact LeS.le | exact LeS.add _ | (simp; done) | (simp; omega)) _)))), by rw [Hx.out]; exact O7.out⟩
        case measure => simp [intOf]; omega
      · obtain rfl : k = es.length := by omega
        rw [List.take_length] at Hown
        clear hc
        go_wp2_with (go_at_call 42; refine (sumOf_any 4 _ _ _ (Hown.out.sl encI_length)).mono ?_; rintro e w' ⟨rfl, z1, rfl⟩)
        go_ret
        exact ⟨rfl, (.of (by repeat (first | (with_reducible exact Ext.refl _) | (with_reducible refine Ext.up ?_ _) | (with_reducible refine Ext.alloc ?_ _) | (with_reducible refine Ext.drew ?_) | (with_reducible refine Ext.setRow ?_ (by first | exact LeS.le | exact LeS.add _ | (simp; done) | (simp; omega)) _) | (with_reducible refine Ext.setCell ?_ (by first | exact LeS.le | exact LeS.add _ | (simp; done) | (simp; omega)) _))))⟩
  · have hq : decide ((10 : Int) < es.length) = true := by simp; omega
    have he : effsSum es = -1 := by unfold effsSum; rw [if_neg h10]
    rw [he]
    clear he
    go_enter Try.func22, Try.ntmps22
    go_wp2_with fail
    go_ret
    exact ⟨rfl, (.of (by repeat (first | (with_reducible exact Ext.refl _) | (with_reducible refine Ext.up ?_ _) | (with_reducible refine Ext.alloc ?_ _) | (with_reducible refine Ext.drew ?_) | (with_reducible refine Ext.setRow ?_ (by first | exact LeS.le | exact LeS.add _ | (simp; done) | (simp; omega)) _) | (with_reducible refine Ext.setCell ?_ (by first | exact LeS.le | exact LeS.add _ | (simp; done) | (simp; omega)) _))))⟩
end Go.Proofs.Yteiemjebdhmnaaa
