/- Walks: runs without actions; first blocks are right. Walks: FnExactReadVersion: which value an action reads. Walks: FnExactLastVersions: the store that remains. Walks: the program's store after a tree's first block; the law FnTreeOf's helpers. Walks: marks on new trees. Walks: dropping versions. Plain laws: versions with those of an action. Walks: versions that are put, the reference's side. Walks: spec.PutVersions. -/
import Derived.Test.YtphkimbhjfjjkaaGBSTop09
import Derived.Test.YtphkimbhjfjjkaaGBSTop12
import Derived.Test.YtphkimbhjfjjkaaGBSTop15
import Derived.Test.YtphkimbhjfjjkaaGBSTop25
import Derived.Test.YtphkimbhjfjjkaaGBSTop02
import Derived.Test.YtphkimbhjfjjkaaGBSTop16
import Derived.Test.YtphkimbhjfjjkaaGBSTop22
import Derived.Test.YtphkimbhjfjjkaaGBSTop13
import Derived.Test.YtphkimbhjfjjkaaGBSTop06
import Derived.Test.YtphkimbhjfjjkaaGBSTop01
import Derived.Test.YtphkimbhjfjjkaaGBSTop00
import Derived.Test.YtphkimbhjfjjkaaGBSTop08
import Derived.Deep.RegionLaw
set_option linter.unusedSimpArgs false
set_option linter.unusedVariables false
namespace Go.Proofs.Ytphkimbhjfjjkaa
open Go Go.RowKit Go.Proofs

theorem results_cell_row2 {P : Program} {fn : Func} {p q : Tmp} {ty : TypeId} (h : fn.results = #[.cell p ty, .tmp q]) (tmps : Array Value) (w : World) (g : Nat) (t : TypeId) (cs : Array Value) (fr : Nat × Nat) (d : TypeDesc) {v : Value}
    (hp : tmps.getD p undef = .pointer (some ⟨g, 0, none⟩)) (hq : tmps.getD q undef = v) (hg : w.heap[g]? = some (.cells cs t fr))
    (hu : P.underlying ty = some d) (hd : (match d with | .struct _ | .array _ _ => true | _ => false) = true) (hi : (P.info? ty).map (·.size) = some cs.size) :
    (results fn tmps).run P w = .ok (.tuple #[.agg cs, v]) w := by
  have hp' : tmps[p]?.getD undef = .pointer (some ⟨g, 0, none⟩) := by simpa using hp
  have hq' : tmps[q]?.getD undef = v := by simpa using hq
  simp [results, h, hp', hq', asAddr, run_loadVar_row w g t ty cs fr d hg hu hd hi]
set_option maxRecDepth 100000 in
set_option maxHeartbeats 2000000 in
theorem runAll_nil (v : List Int) (hv : v.length = 32) (p : Option Addr) (c : Nat) (w : World) :
    Calls Try.prog 107 #[.agg (vA v), .slice p 0 c] w fun e w' => e = .returned (.tuple #[.agg (vA v), .slice none 0 0]) ∧ Up w w' := by
  go_enter Try.func107, Try.ntmps107
  go_wp2_with fail
  go_loopw [6, 14] (fun s6 s14 wr => s14 = .int .i64 0 ∧ s6 = .slice none 0 0 ∧ Up w wr ∧ Row 85 wr w.heap.size v ∧ Row 85 wr (w.heap.size + 1) zeros) (fun _ _ _ => 0)
  case atStart => exact ⟨rfl, rfl, (.of (by repeat (first | (with_reducible exact Ext.refl _) | (with_reducible refine Ext.up ?_ _) | (with_reducible refine Ext.alloc ?_ _) | (with_reducible refine Ext.drew ?_) | (with_reducible refine Ext.setRow ?_ (by first | exact LeS.le | exact LeS.add _ | (simp; done) | (simp; omega)) _) | (with_reducible refine Ext.setCell ?_ (by first | exact LeS.le | exact LeS.add _ | (simp; done) | (simp; omega)) _)))), Row.of_eq (heap_alloc2_old _ _ _) rfl, Row.of_eq (heap_alloc2_new _ _ _) vA_zeros.symm⟩
  case round =>
    obtain ⟨rfl, rfl, ⟨z, rfl⟩, r0, r1⟩ := hrel
    have R0 := Lib.hid r0; have R1 := Lib.hid r1
    clear r0 r1
    go_wp2_with (first | (refine wpList_load_row rfl _ _ rfl _ rfl _ _ _ _ R0.out.eq Try.underlying85 rfl (by rw [vA_size, hv]; exact Try.sVals) ?_) | (refine wpList_store_row rfl _ _ _ rfl _ _ rfl rfl _ _ R1.out.eq (by rw [vA_size, hv]; exact Try.sVals) (by rw [vA_size, vA_size, hv, zeros_length]) (vA_one _) ?_))
    refine bodyPost_ret (results_cell_row2 (p := 4) (q := 5) (by kernel_rfl) _ _ (w.heap.size + 1) _ (vA v) (0, 0) _ rfl rfl (R1.out.setRow _).eq Try.underlying85 rfl (by rw [vA_size, hv]; exact Try.sVals)) rfl ⟨rfl, (.of (by repeat (first | exact Ext.refl _ | refine Ext.up ?_ _ | refine Ext.alloc ?_ _ | refine Ext.drew ?_ | refine Ext.setRow ?_ (by first | (dsimp only; omega) | exact LeS.le | exact LeS.add _ | (simp; done) | (simp; omega)) _ | refine Ext.setCell ?_ (by first | (dsimp only; omega) | exact LeS.le | exact LeS.add _ | (simp; done) | (simp; omega)) _)))⟩
set_option maxRecDepth 100000 in
set_option maxHeartbeats 2000000 in
theorem iRunSerial_nil (s : List Ent) (v : Value) (p : Option Addr) (c : Nat) (w : World) (h : SL (RF Ent.enc) 2 w v s) (hok : entsOk 1 s = true) :
    Calls Try.prog 69 #[v, .slice p 0 c] w fun e w' => ∃ v', e = .returned (.tuple #[v', .slice none 0 0]) ∧ Up w w' ∧ Own Ent.enc 75 2 w.heap.size w' v' s := by
  have H := Lib.hid h
  have kv := fun w h => iStoreValid_any s v w h
  simp only [hok] at kv
  have ka := fun w => iActionsValid_any [] (.slice p 0 c) w (SL.nil _ _ _ _ _)
  simp only [show actsOk [] = true from rfl] at ka
  have he := storeOf_valsOf hok
  have Hok := Lib.hid hok
  have tok : True := trivial
  clear h hok
  go_enter Try.func69, Try.ntmps69
  go_wp2_with (first | (go_at_call 59; refine (kv _ H.out).mono ?_; rintro e w' ⟨rfl, z1, rfl⟩) | (go_at_call 35; refine (ka _).mono ?_; rintro e w' ⟨rfl, z2, rfl⟩) | (go_at_call 108; refine (valuesOf_any 1 s _ _ (H.out.up (by repeat (first | (with_reducible exact Ext.refl _) | (with_reducible refine Ext.up ?_ _) | (with_reducible refine Ext.alloc ?_ _) | (with_reducible refine Ext.drew ?_) | (with_reducible refine Ext.setRow ?_ (by first | exact LeS.le | exact LeS.add _ | (simp; done) | (simp; omega)) _) | (with_reducible refine Ext.setCell ?_ (by first | exact LeS.le | exact LeS.add _ | (simp; done) | (simp; omega)) _)))) Hok.out).mono ?_; rintro e w' ⟨rfl, z3, rfl⟩) | (go_at_call 107; refine (runAll_nil (valsOf s) (valsOf_length s) p c _).mono ?_; rintro e w' ⟨rfl, z4, rfl⟩) | (have _t := tok; refine wpList_store_new rfl _ _ _ rfl rfl rfl rfl (by rw [valsOf_length]; exact Try.sVals) (by rw [valsOf_length]; rfl) ?_; intro z5 r5; clear _t tok; have R5 := Lib.hid r5; clear r5) | (refine wpList_load_row rfl _ _ rfl _ rfl _ _ _ _ R5.out.eq Try.underlying85 rfl (by rw [vA_size, valsOf_length]; exact Try.sVals) ?_) | (go_at_call 78; refine (store_any _ _ (valsOf_length s)).mono ?_; rintro e w' ⟨v', rfl, ⟨z6, rfl⟩, ho⟩; have HO := Lib.hid ho; clear ho))
  refine bodyPost_ret (v := .tuple #[v', .slice none 0 0]) (by simp [results, Try.results69, go_sem]) rfl ?_
  exact ⟨_, rfl, (.of (by repeat (first | (with_reducible exact Ext.refl _) | (with_reducible refine Ext.up ?_ _) | (with_reducible refine Ext.alloc ?_ _) | (with_reducible refine Ext.drew ?_) | (with_reducible refine Ext.setRow ?_ (by first | exact LeS.le | exact LeS.add _ | (simp; done) | (simp; omega)) _) | (with_reducible refine Ext.setCell ?_ (by first | exact LeS.le | exact LeS.add _ | (simp; done) | (simp; omega)) _)))), by have := HO.out; rw [he] at this; exact this.lo LeS.le⟩
set_option maxRecDepth 100000 in
set_option maxHeartbeats 2000000 in
theorem iBlockRight_first (s : List Ent) (v : Value) (p : Option Addr) (c : Nat) (w : World) (h : SL (RF Ent.enc) 2 w v s) (hok : entsOk 1 s = true) :
    Calls Try.prog 22 #[.agg #[.int .i64 (firstB s).bf, .int .i64 (firstB s).ht, .int .i64 (firstB s).vw, .slice p 0 c, .int .i64 (firstB s).rt, .int .i64 (firstB s).ef], v] w fun e w' => e = .returned (.bool true) ∧ Up w w' := by
  have H := Lib.hid h
  have kv := fun w h => iStoreValid_any s v w h
  simp only [hok] at kv
  have kb := fun w => iBlockValid_any (firstB s) [] (.slice p 0 c) w (SL.nil _ _ _ _ _)
  simp only [firstB_ok hok] at kb
  have kr := fun w h => iRunSerial_nil s v p c w h hok
  have kf := firstB_yes hok
  have Hok := Lib.hid hok
  clear h hok
  rw [kf] at kb ⊢
  clear kf
  go_enter Try.func22, Try.ntmps22
  go_wp2_with (first | (go_at_call 21; refine (kb _).mono ?_; rintro e w' ⟨rfl, z1, rfl⟩) | (go_at_call 59; refine (kv _ (H.out.up (by repeat (first | (with_reducible exact Ext.refl _) | (with_reducible refine Ext.up ?_ _) | (with_reducible refine Ext.alloc ?_ _) | (with_reducible refine Ext.drew ?_) | (with_reducible refine Ext.setRow ?_ (by first | exact LeS.le | exact LeS.add _ | (simp; done) | (simp; omega)) _) | (with_reducible refine Ext.setCell ?_ (by first | exact LeS.le | exact LeS.add _ | (simp; done) | (simp; omega)) _))))).mono ?_; rintro e w' ⟨rfl, z2, rfl⟩) | (go_at_call 69; refine (kr _ (H.out.up (by repeat (first | (with_reducible exact Ext.refl _) | (with_reducible refine Ext.up ?_ _) | (with_reducible refine Ext.alloc ?_ _) | (with_reducible refine Ext.drew ?_) | (with_reducible refine Ext.setRow ?_ (by first | exact LeS.le | exact LeS.add _ | (simp; done) | (simp; omega)) _) | (with_reducible refine Ext.setCell ?_ (by first | exact LeS.le | exact LeS.add _ | (simp; done) | (simp; omega)) _))))).mono ?_; rintro e w' ⟨v3, rfl, ⟨z3, rfl⟩, o3⟩))
  have O3 := Lib.hid o3; clear o3
  (refine wp_region_up (by kernel_rfl) (by kernel_rfl) ?_; (repeat (go_big_quiet_step (first | (go_at_call 60; exact Calls.up (iRootOf_any s _ _ ((O3.out.sl Ent.enc_length).up (by repeat (first | (with_reducible exact Ext.refl _) | (with_reducible refine Ext.up ?_ _) | (with_reducible refine Ext.alloc ?_ _) | (with_reducible refine Ext.drew ?_) | (with_reducible refine Ext.setRow ?_ (by first | exact LeS.le | exact LeS.add _ | (simp; done) | (simp; omega)) _) | (with_reducible refine Ext.setCell ?_ (by first | exact LeS.le | exact LeS.add _ | (simp; done) | (simp; omega)) _)))))) | (go_at_call 61; exact Calls.up (iEffectsSum_nil _))))); refine wpQuiet_nil ?_; intro _ hw'; obtain ⟨zq, hw''⟩ := hw'; subst hw'')
  go_wp2_with fail
  go_ret
  exact ⟨rfl, (.of (by repeat (first | (with_reducible exact Ext.refl _) | (with_reducible refine Ext.up ?_ _) | (with_reducible refine Ext.alloc ?_ _) | (with_reducible refine Ext.drew ?_) | (with_reducible refine Ext.setRow ?_ (by first | exact LeS.le | exact LeS.add _ | (simp; done) | (simp; omega)) _) | (with_reducible refine Ext.setCell ?_ (by first | exact LeS.le | exact LeS.add _ | (simp; done) | (simp; omega)) _))))⟩
end Go.Proofs.Ytphkimbhjfjjkaa
namespace Go.Proofs.Ytphkimbhjfjjkaa
open Go Go.RowKit Go.Proofs

def rdOk (s : List Ent) (l : List Ver) (key by_ : Int) : Bool := entsOk 1 s && (versOk l && (inR key 0 31 && inR by_ 0 10))
def rdV (s : List Ent) (l : List Ver) (key by_ : Int) : Int × Int := if rdOk s l key by_ = true then readV (atK s key) l key by_ else (-1, -1)
theorem rdV_no {s : List Ent} {l : List Ver} {key by_ : Int} (h : rdOk s l key by_ = false) : rdV s l key by_ = (-1, -1) := by unfold rdV; rw [h]; rfl
theorem rdV_yes {s : List Ent} {l : List Ver} {key by_ : Int} (h : rdOk s l key by_ = true) : rdV s l key by_ = readV (atK s key) l key by_ := by unfold rdV; rw [h]; rfl
end Go.Proofs.Ytphkimbhjfjjkaa
namespace Go.Proofs.Ytphkimbhjfjjkaa
open Go Go.RowKit Go.Proofs

def lastR (s : List Ent) (l : List Ver) : List Ent := if (entsOk 1 s && versOk l) = true then storeOf (lastV s l) else []
theorem lastR_no {s : List Ent} {l : List Ver} (h : (entsOk 1 s && versOk l) = false) : lastR s l = [] := by unfold lastR; rw [h]; rfl
theorem lastR_yes {s : List Ent} {l : List Ver} (h : (entsOk 1 s && versOk l) = true) : lastR s l = storeOf (lastV s l) := by unfold lastR; rw [h]; rfl
theorem lastR_le (s : List Ent) (l : List Ver) : (lastR s l).length ≤ 32 := by unfold lastR; split; exact storeOf_le _; simp
end Go.Proofs.Ytphkimbhjfjjkaa
namespace Go.Proofs.Ytphkimbhjfjjkaa
open Go Go.RowKit Go.Proofs

theorem GB.setRow {a b : World} {g : Nat} (h : a.grownBy b (some g)) (cs : Array Value) : a.grownBy (b.setRow g cs) (some g) :=
  ⟨h.os, h.tape, h.output, by simpa [World.setRow] using h.size, fun n hn hne => (setRow_other b g n cs (fun e => hne (by rw [e]))).trans (h.block n hn hne)⟩
theorem path_first {t : Tree} (h : t.ok = true) : pathB t 0 = [0] ∧ hasN t 0 = true ∧ ∃ x, t.bs[0]? = some x ∧ x.2 = [] := by
  obtain ⟨_, h1, _⟩ := Tree.lens h
  have hn : hasN t 0 = true := hasN_iff.2 ⟨by omega, by omega⟩
  obtain ⟨x, hx, hl, h0, _⟩ := path_all h hn
  have hx0 : t.bs[0]? = some x := by simpa using hx
  have hht := Tree.ht_zero h hx0
  have hp : pathR t 0 = pathB t 0 := by unfold pathR; rw [h, hn]; rfl
  rw [hp] at hl h0
  refine ⟨?_, hn, x, hx0, ?_⟩
  · have hlen : (pathB t 0).length = 1 := by omega
    obtain ⟨a, ha⟩ := List.length_eq_one_iff.1 hlen
    rw [ha] at h0 ⊢
    simpa using h0
  · have := (Tree.ok_parts h).2.1
    simp only [Tree.first, hx0, sameF, Bool.and_eq_true, beq_iff_eq] at this
    have h5 := this.2.2.2.2.2
    exact List.eq_nil_of_length_eq_zero (by omega)
set_option maxRecDepth 100000 in
set_option maxHeartbeats 2000000 in
theorem after_first (t : Tree) (v0 v1 v2 : Value) (w : World) (h : ST w v0 v1 v2 t) (ho : t.ok = true) :
    Calls Try.prog 77 #[.agg #[v0, v1, v2], .int .i64 0] w fun e w' => e = .returned (.agg (vA (valsOf t.base))) ∧ Up w w' := by
  obtain ⟨hp, hn, x, hx, hxl⟩ := path_first ho
  obtain ⟨p0, c0, rfl, _, _⟩ := h.base.openc
  obtain ⟨p1, c1, rfl, hl1, _, hc1⟩ := h.bs.open
  obtain ⟨p2, c2, rfl, _, _⟩ := h.pr.openc
  obtain ⟨b, off, q, d, rfl, hb, _, _, _, e3, _, _, _⟩ := hc1 0 x hx
  rw [hxl] at e3
  simp only [List.length_nil, Nat.zero_mul, Nat.add_zero] at e3
  have HB := Lib.hid h.base; have H := Lib.hid h
  have hbk : entsOk 1 t.base = true := (Tree.head_parts (Tree.ok_parts ho).1).1
  have hbok := Lib.hid hbk
  have kp := fun w h => path_any t (.slice p0 t.base.length c0) (.slice (some ⟨b, off, none⟩) t.bs.length c1) (.slice p2 t.pr.length c2) 0 w h ho hn
  rw [hp] at kp
  obtain ⟨-, hb1, -⟩ := Tree.lens ho
  have m1 : (0 : Int) < t.bs.length := by omega
  have m2 : 0 < t.bs.length := by omega
  have tok : True := trivial
  clear h hc1 hx hxl hp hn ho hbk
  go_enter Try.func77, Try.ntmps77
  go_wp2_with fail
  (with_reducible refine (valuesOf_any 1 t.base (.slice p0 t.base.length c0) _ (HB.out.up (by repeat (first | (with_reducible exact Ext.refl _) | (with_reducible refine Ext.up ?_ _) | (with_reducible refine Ext.alloc ?_ _) | (with_reducible refine Ext.drew ?_) | (with_reducible refine Ext.setRow ?_ (by first | exact LeS.le | exact LeS.add _ | (simp; done) | (simp; omega)) _) | (with_reducible refine Ext.setCell ?_ (by first | exact LeS.le | exact LeS.add _ | (simp; done) | (simp; omega)) _)))) hbok.out).mono ?_); rintro e w' ⟨rfl, z3, rfl⟩
  have hvl := valsOf_length t.base
  generalize hgv : valsOf t.base = vs at *
  have HGV := Lib.hid hgv
  clear hgv
  go_wp2_with (have _t := tok; refine wpList_store_new rfl _ _ _ rfl rfl rfl rfl (by rw [hvl]; exact Try.sVals) (by rw [hvl]; rfl) ?_; intro z5 r5; clear _t tok; have R5 := Lib.hid r5; clear r5)
  refine (kp _ (H.out.up (by repeat (first | (with_reducible exact Ext.refl _) | (with_reducible refine Ext.up ?_ _) | (with_reducible refine Ext.alloc ?_ _) | (with_reducible refine Ext.drew ?_) | (with_reducible refine Ext.setRow ?_ (by first | exact LeS.le | exact LeS.add _ | (simp; done) | (simp; omega)) _) | (with_reducible refine Ext.setCell ?_ (by first | exact LeS.le | exact LeS.add _ | (simp; done) | (simp; omega)) _))))).mono ?_; rintro e w' ⟨vp, rfl, ⟨z7, rfl⟩, op⟩
  obtain ⟨pp, cp, rfl, _, hcp⟩ := (op.sl encI_length).open
  obtain ⟨bp, offp, rfl, hbp, hcell⟩ := hcp 0 0 rfl
  have x0 : z7.val.cell? ⟨bp, offp, none⟩ = some (.int .i64 0) := by have := hcell 0 _ rfl; simpa using this
  have hz3 := z3.ext.size
  simp at hz3
  have r7 := R5.out.up z7.ext
  have hGl := r7.lt
  have r1 : Row 85 z7.val (w.heap.size + 1) zeros := (((Row.of_eq (heap_alloc2_new _ _ _) vA_zeros.symm : Row 85 _ (w.heap.size + 1) zeros).up z3.ext).up z5.ext).up z7.ext
  have E7 : Ext w z7.val := (by repeat (first | (with_reducible exact Ext.refl _) | (with_reducible refine Ext.up ?_ _) | (with_reducible refine Ext.alloc ?_ _) | (with_reducible refine Ext.drew ?_) | (with_reducible refine Ext.setRow ?_ (by first | exact LeS.le | exact LeS.add _ | (simp; done) | (simp; omega)) _) | (with_reducible refine Ext.setCell ?_ (by first | exact LeS.le | exact LeS.add _ | (simp; done) | (simp; omega)) _)))
  have hbl := hb.lt
  have hbpl : z5.val.heap.size ≤ bp := (World.ownsRow.lt op bp rfl).1
  have hzG := R5.out.lt
  have R7 := Lib.hid r7; have R1 := Lib.hid r1; have HE7 := Lib.hid E7
  have hLx : LtS w.heap.size z7.val := by infer_instance
  have hLb : LtS b z7.val := by infer_instance
  clear R5 r7 r1 op hcp hcell E7
  generalize z3.val.heap.size = G at *
  have n1 : NeS w.heap.size G := ⟨by omega⟩
  have n2 : NeS b G := ⟨by omega⟩
  have n3 : NeS bp G := ⟨by omega⟩
  go_wp2_with fail
  go_loopw [7, 15] (fun _ s15 wr => ∃ k : Nat, s15 = .int .i64 k ∧ k ≤ 1 ∧ (∃ z : ExtR G z7.val, wr = z.val) ∧ Row 85 wr G vs) (fun _ s15 _ => 1 - (intOf s15).toNat)
  case atStart => exact ⟨0, rfl, by omega, ⟨⟨_, grownBy_refl _ _⟩, rfl⟩, R7.out⟩
  case round =>
    obtain ⟨k, rfl, hk, ⟨z, rfl⟩, r⟩ := hrel
    have R := Lib.hid r
    have hLG : LtS G z.val := r.lts
    clear r
    by_cases hlt : k < 1
    · obtain rfl : k = 0 := by omega
      go_upto_region 5 with fail
      refine wp_region_held_drew (S := (fun w' => (∀ n i, ∀ [LtS n z.val] [NeS n G], w'.cell? ⟨n, i, none⟩ = World.cell? z.val ⟨n, i, none⟩) ∧ World.grownBy z.val w' (some G))) (by kernel_rfl) ?_ (fun hHeld => ?_)
      · (try dsimp only)
        refine S_of_gb ?_
        first | (refine GB.setRow ?_ _; (repeat (first | (with_reducible exact grownBy_refl _ _) | (with_reducible refine GB.setNew ?_ (by first | exact LeS.le | exact LeS.add _ | (simp; done) | (simp; omega)) _ _) | (with_reducible refine GB.alloc ?_ _) | (with_reducible refine GB.drew ?_) | (with_reducible refine GB.upR ?_ _) | (with_reducible refine GB.up ?_ _))); done) | ((repeat (first | (with_reducible exact grownBy_refl _ _) | (with_reducible refine GB.setNew ?_ (by first | exact LeS.le | exact LeS.add _ | (simp; done) | (simp; omega)) _ _) | (with_reducible refine GB.alloc ?_ _) | (with_reducible refine GB.drew ?_) | (with_reducible refine GB.upR ?_ _) | (with_reducible refine GB.up ?_ _))); done)
      refine wpAnyH_take (i := 1) (v := ?_) (opAt rfl) (by kernel_rfl) (by kernel_rfl) (by kernel_rfl) (fun _ _ _ h => h) (Or.inl ⟨by rfl, ?_⟩) (by assumption) ?_
      rotate_left
      · (intro w hSw; (try dsimp only at hSw); go_simp) <;> with_reducible rfl
      try simp only [Act.put, List.setIfInBounds_toArray, List.set_cons_zero, List.set_cons_succ]
      refine wpAnyH_take (i := 2) (v := ?_) (opAt rfl) (by kernel_rfl) (by kernel_rfl) (by kernel_rfl) (fun _ _ _ h => h) (Or.inl ⟨by rfl, ?_⟩) (by assumption) ?_
      rotate_left
      · (intro w hSw; (try dsimp only at hSw); go_simp) <;> with_reducible rfl
      try simp only [Act.put, List.setIfInBounds_toArray, List.set_cons_zero, List.set_cons_succ]
      refine wpAnyH_take (i := 3) (v := ?_) (opAt rfl) (by kernel_rfl) (by kernel_rfl) (by kernel_rfl) (fun _ _ _ h => h) (Or.inl ⟨by rfl, ?_⟩) (by assumption) ?_
      rotate_left
      · (intro w hSw; (try dsimp only at hSw); go_simp) <;> with_reducible rfl
      try simp only [Act.put, List.setIfInBounds_toArray, List.set_cons_zero, List.set_cons_succ]
      refine wpAnyH_take (i := 4) (v := ?_) (opAt rfl) (by kernel_rfl) (by kernel_rfl) (by kernel_rfl) (fun _ _ _ h => h) (Or.inl ⟨by rfl, ?_⟩) (by assumption) ?_
      rotate_left
      · (intro w hSw; (try dsimp only at hSw); go_simp) <;> with_reducible rfl
      try simp only [Act.put, List.setIfInBounds_toArray, List.set_cons_zero, List.set_cons_succ]
      refine wpAnyH_take (i := 5) (v := ?_) (opAt rfl) (by kernel_rfl) (by kernel_rfl) (by kernel_rfl) (fun _ _ _ h => h) (Or.inl ⟨by rfl, ?_⟩) (by assumption) ?_
      rotate_left
      · (intro w hSw; (try dsimp only at hSw); go_simp) <;> with_reducible rfl
      try simp only [Act.put, List.setIfInBounds_toArray, List.set_cons_zero, List.set_cons_succ]
      refine wpAnyH_take (i := 6) (v := ?_) (opAt rfl) (by kernel_rfl) (by kernel_rfl) (by kernel_rfl) (fun _ _ _ h => h) (Or.inl ⟨by rfl, ?_⟩) (by assumption) ?_
      rotate_left
      · (intro w hSw; (try dsimp only at hSw); go_simp) <;> with_reducible rfl
      try simp only [Act.put, List.setIfInBounds_toArray, List.set_cons_zero, List.set_cons_succ]
      refine wpAnyH_ready (rs := [0]) (by kernel_rfl) (by simp) ?_
      refine AllReadyH.cons (opAt rfl) (fun K hK => ?_) ?_
      · rw [if_pos (by rfl)]
        refine wp_load_row _ _ rfl _ rfl _ _ _ _ R.out.eq Try.underlying85 rfl (by rw [vA_size, hvl]; exact Try.sVals) ?_
        refine hK.out _ _ ?_ (fun hHeld1 => ?_)
        · (try dsimp only)
          refine S_of_gb ?_
          first | (refine GB.setRow ?_ _; (repeat (first | (with_reducible exact grownBy_refl _ _) | (with_reducible refine GB.setNew ?_ (by first | exact LeS.le | exact LeS.add _ | (simp; done) | (simp; omega)) _ _) | (with_reducible refine GB.alloc ?_ _) | (with_reducible refine GB.drew ?_) | (with_reducible refine GB.upR ?_ _) | (with_reducible refine GB.up ?_ _))); done) | ((repeat (first | (with_reducible exact grownBy_refl _ _) | (with_reducible refine GB.setNew ?_ (by first | exact LeS.le | exact LeS.add _ | (simp; done) | (simp; omega)) _ _) | (with_reducible refine GB.alloc ?_ _) | (with_reducible refine GB.drew ?_) | (with_reducible refine GB.upR ?_ _) | (with_reducible refine GB.up ?_ _))); done)
        clear hK K hHeld
        have hHeld := hHeld1; clear hHeld1
        try simp only [Act.put, List.setIfInBounds_toArray, List.set_cons_zero, List.set_cons_succ]
        refine wpAnyH_ready (rs := [7]) (by kernel_rfl) (by simp) ?_
        refine AllReadyH.cons (opAt rfl) (fun K hK => ?_) ?_
        · go_simp
          go_at_call 107
          (with_reducible refine (runAll_nil vs hvl _ _ _).mono ?_)
          rintro e w' ⟨rfl, z6, rfl⟩
          try go_wp2_with fail
          refine hK.out _ _ ?_ (fun hHeld1 => ?_)
          · (try dsimp only)
            refine S_of_gb ?_
            first | (refine GB.setRow ?_ _; (repeat (first | (with_reducible exact grownBy_refl _ _) | (with_reducible refine GB.setNew ?_ (by first | exact LeS.le | exact LeS.add _ | (simp; done) | (simp; omega)) _ _) | (with_reducible refine GB.alloc ?_ _) | (with_reducible refine GB.drew ?_) | (with_reducible refine GB.upR ?_ _) | (with_reducible refine GB.up ?_ _))); done) | ((repeat (first | (with_reducible exact grownBy_refl _ _) | (with_reducible refine GB.setNew ?_ (by first | exact LeS.le | exact LeS.add _ | (simp; done) | (simp; omega)) _ _) | (with_reducible refine GB.alloc ?_ _) | (with_reducible refine GB.drew ?_) | (with_reducible refine GB.upR ?_ _) | (with_reducible refine GB.up ?_ _))); done)
          clear hK K hHeld
          have hHeld := hHeld1; clear hHeld1
          try simp only [Act.put, List.setIfInBounds_toArray, List.set_cons_zero, List.set_cons_succ]
          refine wpAnyH_take (i := 8) (v := ?_) (opAt rfl) (by kernel_rfl) (by kernel_rfl) (by kernel_rfl) (fun _ _ _ h => h) (Or.inl ⟨by rfl, ?_⟩) (by assumption) ?_
          rotate_left
          · (intro w hSw; (try dsimp only at hSw); go_simp) <;> with_reducible rfl
          try simp only [Act.put, List.setIfInBounds_toArray, List.set_cons_zero, List.set_cons_succ]
          refine wpAnyH_take (i := 9) (v := ?_) (opAt rfl) (by kernel_rfl) (by kernel_rfl) (by kernel_rfl) (fun _ _ _ h => h) (Or.inl ⟨by rfl, ?_⟩) (by assumption) ?_
          rotate_left
          · (intro w hSw; (try dsimp only at hSw); go_simp) <;> with_reducible rfl
          try simp only [Act.put, List.setIfInBounds_toArray, List.set_cons_zero, List.set_cons_succ]
          refine wpAnyH_take (i := 10) (v := ?_) (opAt rfl) (by kernel_rfl) (by kernel_rfl) (by kernel_rfl) (fun _ _ _ h => h) (Or.inl ⟨by rfl, ?_⟩) (by assumption) ?_
          rotate_left
          · (intro w hSw; (try dsimp only at hSw); go_simp) <;> with_reducible rfl
          try simp only [Act.put, List.setIfInBounds_toArray, List.set_cons_zero, List.set_cons_succ]
          refine wpAnyH_ready (rs := [11]) (by kernel_rfl) (by simp) ?_
          refine AllReadyH.cons (opAt rfl) (fun K hK => ?_) ?_
          · rw [if_pos (by rfl)]
            refine wp_store_row _ _ _ rfl _ _ rfl rfl _ _ (R.out.up (w' := z6.val) (by repeat (first | (with_reducible exact Ext.refl _) | (with_reducible refine Ext.up ?_ _) | (with_reducible refine Ext.alloc ?_ _) | (with_reducible refine Ext.drew ?_) | (with_reducible refine Ext.setRow ?_ (by first | exact LeS.le | exact LeS.add _ | (simp; done) | (simp; omega)) _) | (with_reducible refine Ext.setCell ?_ (by first | exact LeS.le | exact LeS.add _ | (simp; done) | (simp; omega)) _)))).eq (by rw [vA_size, hvl]; exact Try.sVals) (by rw [vA_size]) (vA_one _) ?_
            refine hK.out _ _ ?_ (fun hHeld1 => ?_)
            · (try dsimp only)
              refine S_of_gb ?_
              first | (refine GB.setRow ?_ _; (repeat (first | (with_reducible exact grownBy_refl _ _) | (with_reducible refine GB.setNew ?_ (by first | exact LeS.le | exact LeS.add _ | (simp; done) | (simp; omega)) _ _) | (with_reducible refine GB.alloc ?_ _) | (with_reducible refine GB.drew ?_) | (with_reducible refine GB.upR ?_ _) | (with_reducible refine GB.up ?_ _))); done) | ((repeat (first | (with_reducible exact grownBy_refl _ _) | (with_reducible refine GB.setNew ?_ (by first | exact LeS.le | exact LeS.add _ | (simp; done) | (simp; omega)) _ _) | (with_reducible refine GB.alloc ?_ _) | (with_reducible refine GB.drew ?_) | (with_reducible refine GB.upR ?_ _) | (with_reducible refine GB.up ?_ _))); done)
            clear hK K hHeld
            have hHeld := hHeld1; clear hHeld1
            try simp only [Act.put, List.setIfInBounds_toArray, List.set_cons_zero, List.set_cons_succ]
            refine wpAnyH_done (by kernel_rfl) ?_ _
            go_wp2_with fail
            go_roundw
            case rel => exact ⟨1, by go_num, by omega, ⟨⟨_, GB.setRow (grownBy_trans z.grown (grownBy_ext (show Ext z.val z6.val from (by repeat (first | (with_reducible exact Ext.refl _) | (with_reducible refine Ext.up ?_ _) | (with_reducible refine Ext.alloc ?_ _) | (with_reducible refine Ext.drew ?_) | (with_reducible refine Ext.setRow ?_ (by first | exact LeS.le | exact LeS.add _ | (simp; done) | (simp; omega)) _) | (with_reducible refine Ext.setCell ?_ (by first | exact LeS.le | exact LeS.add _ | (simp; done) | (simp; omega)) _)))))) _⟩, rfl⟩, (R.out.up (w' := z6.val) (by repeat (first | (with_reducible exact Ext.refl _) | (with_reducible refine Ext.up ?_ _) | (with_reducible refine Ext.alloc ?_ _) | (with_reducible refine Ext.drew ?_) | (with_reducible refine Ext.setRow ?_ (by first | exact LeS.le | exact LeS.add _ | (simp; done) | (simp; omega)) _) | (with_reducible refine Ext.setCell ?_ (by first | exact LeS.le | exact LeS.add _ | (simp; done) | (simp; omega)) _)))).setRow _⟩
            case measure => simp [intOf]
          exact AllReadyH.nil
        exact AllReadyH.nil
      exact AllReadyH.nil
    · obtain rfl : k = 1 := by omega
      have r1 : Row 85 z.val (w.heap.size + 1) zeros := (z.block R1.out.lt (by omega)).trans R1.out
      have RZ := Lib.hid r1
      have EZ := Lib.hid (Ext.upR HE7.out (by omega) z)
      clear r1
      go_wp2_with (first | (refine wpList_load_row rfl _ _ rfl _ rfl _ _ _ _ R.out.eq Try.underlying85 rfl (by rw [vA_size, hvl]; exact Try.sVals) ?_) | (refine wpList_store_row rfl _ _ _ rfl _ _ rfl rfl _ _ RZ.out.eq (by rw [vA_size, hvl]; exact Try.sVals) (by rw [vA_size, vA_size, hvl, zeros_length]) (vA_one _) ?_))
      refine bodyPost_ret (results_cell_row (p := 4) (by kernel_rfl) _ _ (w.heap.size + 1) _ (vA vs) (0, 0) _ rfl (RZ.out.setRow _).eq Try.underlying85 rfl (by rw [vA_size, hvl]; exact Try.sVals)) rfl ⟨by rw [HGV.out], .of (EZ.out.setRow (by omega) _)⟩
set_option maxRecDepth 100000 in
set_option maxHeartbeats 1000000 in
theorem iStoreOf_first (t : Tree) (v0 v1 v2 : Value) (w : World) (h : ST w v0 v1 v2 t) (ho : t.ok = true) :
    Calls Try.prog 32 #[.agg #[v0, v1, v2], .int .i64 0] w fun e w' => ∃ v', e = .returned v' ∧ Up w w' ∧ Own Ent.enc 75 2 w.heap.size w' v' t.base := by
  obtain ⟨_, hn, _⟩ := path_first ho
  obtain ⟨p0, c0, rfl, _, _⟩ := h.base.openc
  obtain ⟨p1, c1, rfl, _, _⟩ := h.bs.openc
  obtain ⟨p2, c2, rfl, _, _⟩ := h.pr.openc
  have H := Lib.hid h
  have kv := fun w h => iTreeValid_any t (.slice p0 t.base.length c0) (.slice p1 t.bs.length c1) (.slice p2 t.pr.length c2) w h
  have kh := fun w h => has_any t (.slice p0 t.base.length c0) (.slice p1 t.bs.length c1) (.slice p2 t.pr.length c2) 0 w h
  have ka := fun w h => after_first t (.slice p0 t.base.length c0) (.slice p1 t.bs.length c1) (.slice p2 t.pr.length c2) w h ho
  have he := storeOf_valsOf (Tree.head_parts (Tree.ok_parts ho).1).1
  have hvl := valsOf_length t.base
  simp only [ho] at kv
  simp only [hn] at kh
  generalize valsOf t.base = vs at *
  have HE := Lib.hid he
  clear h ho hn he
  go_enter Try.func32, Try.ntmps32
  go_wp2_with (first | (go_at_call 30; refine (kv _ (H.out.up (by repeat (first | (with_reducible exact Ext.refl _) | (with_reducible refine Ext.up ?_ _) | (with_reducible refine Ext.alloc ?_ _) | (with_reducible refine Ext.drew ?_) | (with_reducible refine Ext.setRow ?_ (by first | exact LeS.le | exact LeS.add _ | (simp; done) | (simp; omega)) _) | (with_reducible refine Ext.setCell ?_ (by first | exact LeS.le | exact LeS.add _ | (simp; done) | (simp; omega)) _))))).mono ?_; rintro e w' ⟨rfl, z1, rfl⟩) | (go_at_call 76; refine (kh _ (H.out.up (by repeat (first | (with_reducible exact Ext.refl _) | (with_reducible refine Ext.up ?_ _) | (with_reducible refine Ext.alloc ?_ _) | (with_reducible refine Ext.drew ?_) | (with_reducible refine Ext.setRow ?_ (by first | exact LeS.le | exact LeS.add _ | (simp; done) | (simp; omega)) _) | (with_reducible refine Ext.setCell ?_ (by first | exact LeS.le | exact LeS.add _ | (simp; done) | (simp; omega)) _))))).mono ?_; rintro e w' ⟨rfl, z2, rfl⟩) | (go_at_call 77; refine (ka _ (H.out.up (by repeat (first | (with_reducible exact Ext.refl _) | (with_reducible refine Ext.up ?_ _) | (with_reducible refine Ext.alloc ?_ _) | (with_reducible refine Ext.drew ?_) | (with_reducible refine Ext.setRow ?_ (by first | exact LeS.le | exact LeS.add _ | (simp; done) | (simp; omega)) _) | (with_reducible refine Ext.setCell ?_ (by first | exact LeS.le | exact LeS.add _ | (simp; done) | (simp; omega)) _))))).mono ?_; rintro e w' ⟨rfl, z3, rfl⟩) | (go_at_call 78; refine (store_any vs _ hvl).mono ?_; rintro e w' ⟨v', rfl, ⟨z4, rfl⟩, o4⟩; have O4 := Lib.hid o4; clear o4))
  go_ret
  exact ⟨_, rfl, (.of (by repeat (first | (with_reducible exact Ext.refl _) | (with_reducible refine Ext.up ?_ _) | (with_reducible refine Ext.alloc ?_ _) | (with_reducible refine Ext.drew ?_) | (with_reducible refine Ext.setRow ?_ (by first | exact LeS.le | exact LeS.add _ | (simp; done) | (simp; omega)) _) | (with_reducible refine Ext.setCell ?_ (by first | exact LeS.le | exact LeS.add _ | (simp; done) | (simp; omega)) _)))), by have := O4.out; rw [HE.out] at this; exact this.lo LeS.le⟩
end Go.Proofs.Ytphkimbhjfjjkaa
namespace Go.Proofs.Ytphkimbhjfjjkaa
open Go Go.RowKit Go.Proofs

def mb (m : Int) : TB := ⟨⟨m, m + 1, m + 1 + 1, m + 1 + 1 + 1, m + 1 + 1 + 1 + 1⟩, .slice none 0 0, []⟩
end Go.Proofs.Ytphkimbhjfjjkaa
namespace Go.Proofs.Ytphkimbhjfjjkaa
open Go Go.RowKit Go.Proofs

def dropV (l : List Ver) (by_ : Int) : List Ver := l.filter fun x => decide (x.b ≠ by_)
theorem dropV_le (l : List Ver) (b : Int) : (dropV l b).length ≤ l.length := List.length_filter_le _ _
theorem dropV_snoc_in {l : List Ver} {k : Nat} {x : Ver} {b : Int} (h : l[k]? = some x) (hb : x.b ≠ b) : dropV (l.take (k + 1)) b = dropV (l.take k) b ++ [x] := by
  rw [List.take_add_one, h]; simp [dropV, hb]
theorem dropV_snoc_out {l : List Ver} {k : Nat} {x : Ver} {b : Int} (h : l[k]? = some x) (hb : x.b = b) : dropV (l.take (k + 1)) b = dropV (l.take k) b := by
  rw [List.take_add_one, h]; simp [dropV, hb]

/-- What is left without those of an action; nothing of versions that are not valid. -/
def dropR (l : List Ver) (b : Int) : List Ver := if versOk l = true then dropV l b else []
theorem dropR_le (l : List Ver) (b : Int) : (dropR l b).length ≤ l.length := by unfold dropR; split; exact dropV_le l b; simp
end Go.Proofs.Ytphkimbhjfjjkaa
namespace Go.Proofs.Ytphkimbhjfjjkaa
open Go Go.RowKit

def mkV (by_ : Int) (e : Ent) : Ver := ⟨e.k, by_, e.v⟩
def insV (x : Ver) (l : List Ver) : List Ver := l.takeWhile (fun y => verLt y x) ++ x :: l.dropWhile (fun y => verLt y x)
def putTo (by_ : Int) (out : List Ver) (u : List Ent) : List Ver := u.foldl (fun o e => insV (mkV by_ e) o) out
def putV (l : List Ver) (by_ : Int) (u : List Ent) : List Ver := putTo by_ (dropV l by_) u
theorem insV_length (x : Ver) (l : List Ver) : (insV x l).length = l.length + 1 := by
  have := congrArg List.length (List.takeWhile_append_dropWhile (p := fun y => verLt y x) (l := l))
  simp only [List.length_append] at this
  simp [insV]; omega
theorem putTo_length (by_ : Int) : ∀ (u : List Ent) (out : List Ver), (putTo by_ out u).length = out.length + u.length
  | [], out => by simp [putTo]
  | e :: u, out => by
    have := putTo_length by_ u (insV (mkV by_ e) out)
    rw [insV_length] at this
    simp only [putTo, List.foldl_cons, List.length_cons] at *; omega
theorem putTo_snoc (by_ : Int) (out : List Ver) {u : List Ent} {k : Nat} {e : Ent} (h : u[k]? = some e) : putTo by_ out (u.take (k + 1)) = insV (mkV by_ e) (putTo by_ out (u.take k)) := by
  rw [List.take_add_one, h]; simp [putTo]
theorem insV_perm (x : Ver) (l : List Ver) : (insV x l).Perm (x :: l) := by
  unfold insV
  refine List.perm_middle.trans (List.Perm.cons x ?_)
  rw [List.takeWhile_append_dropWhile]
theorem verLt_trans {x y z : Ver} (h : verLt x y = true) (h' : verLt y z = true) : verLt x z = true := by rw [verLt_iff] at *; omega
theorem verLt_or {x y : Ver} (h : x.k ≠ y.k ∨ x.b ≠ y.b) : verLt x y = true ∨ verLt y x = true := by rw [verLt_iff, verLt_iff]; omega
theorem insV_sorted {x : Ver} {l : List Ver} (h : l.Pairwise fun a b => verLt a b = true) (hd : ∀ y ∈ l, verLt y x = true ∨ verLt x y = true) : (insV x l).Pairwise fun a b => verLt a b = true := by
  induction l with
  | nil => simp [insV]
  | cons y l ih =>
    rw [List.pairwise_cons] at h
    unfold insV
    rcases hy : verLt y x with _ | _
    · have hxy : verLt x y = true := by rcases hd y (by simp) with h1 | h1; rw [hy] at h1; cases h1; exact h1
      simp only [List.takeWhile_cons, List.dropWhile_cons, hy, Bool.false_eq_true, if_false, List.nil_append, List.pairwise_cons]
      refine ⟨fun z hz => ?_, h⟩
      rcases List.mem_cons.1 hz with rfl | hz
      · exact hxy
      · exact verLt_trans hxy (h.1 z hz)
    · simp only [List.takeWhile_cons, List.dropWhile_cons, hy, if_true, List.cons_append, List.pairwise_cons]
      refine ⟨fun z hz => ?_, ih h.2 fun y hy => hd y (by simp [hy])⟩
      have : z ∈ x :: l := (insV_perm x l).mem_iff.1 hz
      rcases List.mem_cons.1 this with rfl | hz'
      · exact hy
      · exact h.1 z hz'
theorem putTo_perm (by_ : Int) : ∀ (u : List Ent) (out : List Ver), (putTo by_ out u).Perm (out ++ u.map (mkV by_))
  | [], out => by simp [putTo]
  | e :: u, out => by
    have ih := putTo_perm by_ u (insV (mkV by_ e) out)
    show (putTo by_ (insV (mkV by_ e) out) u).Perm _
    refine ih.trans ?_
    rw [List.map_cons]
    refine ((insV_perm _ _).append_right _).trans ?_
    exact List.perm_middle.symm
theorem putTo_sorted (by_ : Int) : ∀ (u : List Ent) (out : List Ver), out.Pairwise (fun a b => verLt a b = true) → (∀ y ∈ out, ∀ e ∈ u, y.k ≠ e.k ∨ y.b ≠ by_) → u.Pairwise (fun a b => a.k < b.k) → (putTo by_ out u).Pairwise fun a b => verLt a b = true
  | [], out, h, _, _ => h
  | e :: u, out, h, hd, hu => by
    rw [List.pairwise_cons] at hu
    refine putTo_sorted by_ u (insV (mkV by_ e) out) (insV_sorted h fun y hy => verLt_or (hd y hy e (by simp))) (fun y hy e' he' => ?_) hu.2
    have : y ∈ mkV by_ e :: out := (insV_perm _ _).mem_iff.1 hy
    rcases List.mem_cons.1 this with rfl | hy'
    · left; have := hu.1 e' he'; show e.k ≠ e'.k; omega
    · exact hd y hy' e' (by simp [he'])
theorem vers_sorted {l : List Ver} (h : versOk l = true) : l.Pairwise fun a b => verLt a b = true := by
  have key : ∀ n (i : Nat) x y, l[i]? = some x → l[i + (n + 1)]? = some y → verLt x y = true := by
    intro n
    induction n with
    | zero =>
      intro i x y hx hy
      have := upTo_iff.1 h _ (List.getElem?_eq_some_iff.1 hy).1
      rw [verAt_next hy (by omega) (by simpa using hx), Bool.and_eq_true] at this
      exact this.2
    | succ n ih =>
      intro i x y hx hy
      have hlt := (List.getElem?_eq_some_iff.1 hy).1
      obtain ⟨z, hz⟩ := getElem?_some_of_lt (show i + (n + 1) < l.length by omega)
      have h1 := ih i x z hx hz
      have := upTo_iff.1 h _ hlt
      rw [verAt_next hy (by omega) (by simpa using hz), Bool.and_eq_true] at this
      exact verLt_trans h1 this.2
  rw [List.pairwise_iff_getElem]
  intro i j hi hj hij
  exact key (j - i - 1) i l[i] l[j] (by simp) (by rw [show i + (j - i - 1 + 1) = j from by omega]; simp)
theorem versOk_mem {l : List Ver} (h : versOk l = true) {x : Ver} (hx : x ∈ l) : verIn x = true := by
  obtain ⟨i, hi⟩ := List.getElem?_of_mem hx
  have := upTo_iff.1 h i (List.getElem?_eq_some_iff.1 hi).1
  simp only [verAt, hi, Bool.and_eq_true] at this
  exact this.1
theorem dropV_sorted {l : List Ver} (h : l.Pairwise fun a b => verLt a b = true) (b : Int) : (dropV l b).Pairwise fun a b => verLt a b = true := h.filter _
theorem dropV_ne {l : List Ver} {b : Int} {x : Ver} (h : x ∈ dropV l b) : x ∈ l ∧ x.b ≠ b := by simpa [dropV] using h
theorem putV_sorted {l : List Ver} {by_ : Int} {u : List Ent} (h : l.Pairwise fun a b => verLt a b = true) (hu : u.Pairwise fun a b => a.k < b.k) : (putV l by_ u).Pairwise fun a b => verLt a b = true :=
  putTo_sorted by_ u _ (dropV_sorted h by_) (fun _ hy _ _ => .inr (dropV_ne hy).2) hu
/-- What is sorted and has the same versions is the same. -/
theorem putV_unique {l : List Ver} {by_ : Int} {u : List Ent} {m : List Ver} (h : l.Pairwise fun a b => verLt a b = true) (hu : u.Pairwise fun a b => a.k < b.k)
    (hp : m.Perm (dropV l by_ ++ u.map (mkV by_))) (hs : m.Pairwise fun a b => verLt b a = false) : m = putV l by_ u := by
  have hq : (putV l by_ u).Perm (dropV l by_ ++ u.map (mkV by_)) := putTo_perm by_ u _
  have hsrt := putV_sorted (by_ := by_) h hu
  have hw : (putV l by_ u).Pairwise fun a b => verLt b a = false := hsrt.imp fun {a b} hab => by
    rcases hba : verLt b a with _ | _
    · rfl
    · rw [verLt_iff] at hab hba; omega
  refine List.Perm.eq_of_pairwise (le := fun a b => verLt b a = false) (fun a b ha hb h1 h2 => ?_) hs hw (hp.trans hq.symm)
  have hb' : a ∈ putV l by_ u := (hp.trans hq.symm).mem_iff.1 ha
  obtain ⟨i, hi⟩ := List.getElem?_of_mem hb'
  obtain ⟨j, hj⟩ := List.getElem?_of_mem hb
  by_cases hij : i = j
  · subst hij; rw [hi] at hj; cases hj; rfl
  · exfalso
    obtain ⟨hi1, hi2⟩ := List.getElem?_eq_some_iff.1 hi
    obtain ⟨hj1, hj2⟩ := List.getElem?_eq_some_iff.1 hj
    rw [List.pairwise_iff_getElem] at hsrt
    rcases Nat.lt_or_gt_of_ne hij with h3 | h3
    · have := hsrt i j hi1 hj1 h3; rw [hi2, hj2, h2] at this; cases this
    · have := hsrt j i hj1 hi1 h3; rw [hi2, hj2, h1] at this; cases this
def putOk (l : List Ver) (by_ : Int) (u : List Ent) : Bool := versOk l && (inR by_ 0 9 && entsOk 0 u)
def putR (l : List Ver) (by_ : Int) (u : List Ent) : List Ver := if putOk l by_ u = true then putV l by_ u else []
theorem putR_no {l : List Ver} {by_ : Int} {u : List Ent} (h : putOk l by_ u = false) : putR l by_ u = [] := by unfold putR; rw [h]; rfl
theorem putR_yes {l : List Ver} {by_ : Int} {u : List Ent} (h : putOk l by_ u = true) : putR l by_ u = putV l by_ u := by unfold putR; rw [h]; rfl
theorem putV_le (l : List Ver) (by_ : Int) (u : List Ent) : (putV l by_ u).length ≤ l.length + u.length := by
  unfold putV; rw [putTo_length]; have := dropV_le l by_; omega
theorem putR_le (l : List Ver) (by_ : Int) (u : List Ent) : (putR l by_ u).length ≤ l.length + u.length := by
  unfold putR; split; exact putV_le l by_ u; simp
end Go.Proofs.Ytphkimbhjfjjkaa
namespace Go.Proofs.Ytphkimbhjfjjkaa
open Go Go.RowKit Go.Proofs

theorem insV_at {x : Ver} {l : List Ver} {j : Nat} (h1 : ∀ y ∈ l.take j, verLt y x = true) (h2 : ∀ y, l[j]? = some y → verLt y x = false) : insV x l = l.take j ++ x :: l.drop j := by
  unfold insV
  have e : l = l.take j ++ l.drop j := (List.take_append_drop j l).symm
  have hd : (l.drop j).takeWhile (fun y => verLt y x) = [] ∧ (l.drop j).dropWhile (fun y => verLt y x) = l.drop j := by
    rcases hq : l.drop j with _ | ⟨y, ys⟩
    · exact ⟨rfl, rfl⟩
    · have : l[j]? = some y := by have := congrArg (fun m => m[0]?) hq; simpa [List.getElem?_drop] using this
      have := h2 y this
      simp [this]
  conv => lhs; rw [e]
  rw [List.takeWhile_append_of_pos h1, List.dropWhile_append_of_pos h1, hd.1, hd.2, List.append_nil]
theorem oneVs (l : List Ver) : ∀ u ∈ l.flatMap Ver.enc, u.oneCell' = true := by
  intro u hu
  obtain ⟨x, _, h⟩ := List.mem_flatMap.1 hu
  exact oneV x u h
end Go.Proofs.Ytphkimbhjfjjkaa
namespace Go.Proofs.Ytphkimbhjfjjkaa
open Go Go.RowKit Go.Proofs

end Go.Proofs.Ytphkimbhjfjjkaa
