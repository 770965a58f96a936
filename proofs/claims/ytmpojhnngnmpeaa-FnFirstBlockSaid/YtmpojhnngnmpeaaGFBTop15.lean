/- One closed fact on the program, by itself (it takes much memory). Ground for the rows of this seat: the program's closed facts; the decoders of the laws' parameter types. The law FnConflictSelf's walk. Walks: runs without actions; first blocks are right. The law FnFirstBlock's walk. The decoder of codes. -/
import Derived.Test.YtmpojhnngnmpeaaProg
import Derived.JoinedOf
import Derived.Test.YtmpojhnngnmpeaaRows
import Derived.Test.YtmpojhnngnmpeaaGFBTop14
import Derived.Test.YtmpojhnngnmpeaaGFBTop00
import Derived.Test.YtmpojhnngnmpeaaGFBTop07
import Derived.Test.YtmpojhnngnmpeaaGFBTop04
import Derived.Test.YtmpojhnngnmpeaaGFBTop05
import Derived.Test.YtmpojhnngnmpeaaGFBTop09
import Derived.Test.YtmpojhnngnmpeaaGFBTop11
import Derived.Test.YtmpojhnngnmpeaaGFBTop06
namespace Go.Proofs.Ytmpojhnngnmpeaa
open Go Go.Proofs
theorem Try.make : Try.prog.make = some .cut := by kernel_rfl
end Go.Proofs.Ytmpojhnngnmpeaa
namespace Go.Proofs.Ytmpojhnngnmpeaa
open Go.ChangeShapes Go.WideShapes Go.ChangeAt Go.RowKit

theorem Try.own : ownKnob Try.prog.godebug = none := by kernel_rfl
theorem Try.laidOut : laidOutB Try.prog = true := by kernel_rfl
theorem Try.c_int : Try.prog.cellsOf 3 = 1 := by kernel_rfl

theorem dec_Int : Dec Try.prog 3 1 RInt := dec_int Try.underlying3
theorem dec_IntF : Dec Try.prog 3 1 (RF encI) := by
  intro H enc W sp held fuel cs x h
  obtain ⟨h1, n, h2, _⟩ := dec_Int H enc W sp held fuel cs x h
  exact ⟨h1, n, h2⟩
theorem dec_IntS : Dec Try.prog 48 1 (RSl (RF encI) 1) := dec_slice Try.underlying48 (by kernel_rfl) (by decide) dec_IntF
set_option maxRecDepth 100000 in
theorem open_sl {α : Type} {t e sz : Nat} {R : World → List Value → α → Prop} (hd : Dec Try.prog t 1 (RSl R sz)) (ht : Try.prog.underlying t = some (.slice e)) {H : Type} {enc : TypeId × Value → H} {W : World} {sp : Nat → Bool} {held : Bool} {v : Value} {d : DataW H} {ps : List MemPlace} {r : Reach} {b0 : Nat}
    (hok : Value.okWide Try.prog W r b0 t v) (h : DataW.Trod enc Try.prog W 0 sp held t v d ps) : ∃ l, SL R sz W v l := by
  obtain ⟨a, len, cap, rfl⟩ := okWide_slice ht hok
  obtain ⟨l, v', e, hl⟩ := hd.one (fun _ h => by cases h) h
  cases e; exact ⟨l, hl⟩
set_option maxRecDepth 100000 in
theorem open_i {H : Type} {enc : TypeId × Value → H} {W : World} {sp : Nat → Bool} {held : Bool} {v : Value} {d : DataW H} {ps : List MemPlace} {r : Reach} {b0 : Nat}
    (hok : Value.okWide Try.prog W r b0 3 v) (h : DataW.Trod enc Try.prog W 0 sp held 3 v d ps) : ∃ n, v = .int .i64 n ∧ I64 n := by
  obtain ⟨x, rfl, _, _, wx⟩ := open_int Try.underlying3 hok h
  exact ⟨x, rfl, I64.of_wf wx⟩
end Go.Proofs.Ytmpojhnngnmpeaa
namespace Go.Proofs.Ytmpojhnngnmpeaa
open Go Go.RowKit Go.Proofs

set_option maxRecDepth 100000 in
theorem open_any (bs : List Int) (v : Value) (w : World) (h : SL (RF encU) 1 w v bs) (hb : ∀ b ∈ bs, 0 ≤ b ∧ b ≤ 255) :
    Calls Try.prog 57 #[v] w fun e w' => ∃ rb, e = .returned (.pointer (some ⟨rb, 0, none⟩)) ∧ Up w w' ∧ Rd w w' rb 0 := by
  have hs := h
  obtain ⟨p, c, rfl, hl, hc⟩ := h.openc
  have Hs := Lib.hid hs; clear h hs
  by_cases hlen : 2000 < bs.length
  · obtain ⟨p', c', e', _, hcc⟩ := Hs.out.open
    cases e'
    obtain ⟨x, hx⟩ := getElem?_some_of_lt (show 0 < bs.length by omega)
    obtain ⟨b, off, rfl, _, _⟩ := hcc 0 x hx
    clear hcc hx
    have h2 : (2000 : Int) ≤ (c : Int) := by omega
    go_enter Try.func57, Try.ntmps57
    go_wp2_with fail
    go_ret
    have ht : (bs.take 2000).length = 2000 := by rw [List.length_take]; omega
    have hst := SL.take Hs.out (k := 2000) (by omega)
    refine ⟨w.heap.size, rfl, (.of (by repeat (first | (with_reducible exact Ext.refl _) | (with_reducible refine Ext.up ?_ _) | (with_reducible refine Ext.alloc ?_ _) | (with_reducible refine Ext.drew ?_) | (with_reducible refine Ext.setRow ?_ (by first | exact LeS.le | exact LeS.add _ | (simp; done) | (simp; omega)) _) | (with_reducible refine Ext.setCell ?_ (by first | exact LeS.le | exact LeS.add _ | (simp; done) | (simp; omega)) _)))), (by repeat (first | (with_reducible exact Ext.refl _) | (with_reducible refine Ext.up ?_ _) | (with_reducible refine Ext.alloc ?_ _) | (with_reducible refine Ext.drew ?_) | (with_reducible refine Ext.setRow ?_ (by first | exact LeS.le | exact LeS.add _ | (simp; done) | (simp; omega)) _) | (with_reducible refine Ext.setCell ?_ (by first | exact LeS.le | exact LeS.add _ | (simp; done) | (simp; omega)) _))), Nat.le_refl _, _, bs.take 2000, 0, _, heap_alloc_new w _, hst, by omega, fun b hbm => hb b (List.mem_of_mem_take hbm), by omega, by omega⟩
  · go_enter Try.func57, Try.ntmps57
    go_wp2_with fail
    go_ret
    refine ⟨w.heap.size, rfl, (.of (by repeat (first | (with_reducible exact Ext.refl _) | (with_reducible refine Ext.up ?_ _) | (with_reducible refine Ext.alloc ?_ _) | (with_reducible refine Ext.drew ?_) | (with_reducible refine Ext.setRow ?_ (by first | exact LeS.le | exact LeS.add _ | (simp; done) | (simp; omega)) _) | (with_reducible refine Ext.setCell ?_ (by first | exact LeS.le | exact LeS.add _ | (simp; done) | (simp; omega)) _)))), (by repeat (first | (with_reducible exact Ext.refl _) | (with_reducible refine Ext.up ?_ _) | (with_reducible refine Ext.alloc ?_ _) | (with_reducible refine Ext.drew ?_) | (with_reducible refine Ext.setRow ?_ (by first | exact LeS.le | exact LeS.add _ | (simp; done) | (simp; omega)) _) | (with_reducible refine Ext.setCell ?_ (by first | exact LeS.le | exact LeS.add _ | (simp; done) | (simp; omega)) _))), Nat.le_refl _, _, bs, 0, _, heap_alloc_new w _, Hs.out, by omega, hb, by omega, by omega⟩
theorem alive_any (w : World) : Calls Try.prog 18 #[] w fun e w' => e = .returned (.bool true) ∧ Up w w' := by
  have hs : sumOf 0 [] = 17 := rfl
  have k := fun a c w => sumOf_any 0 [] (.slice a 0 c) w (SL.nil _ _ _ _ _)
  rw [hs] at k
  go_enter Try.func18, Try.ntmps18
  go_wp2_with (go_at_call 64; refine (k _ _ _).mono ?_; rintro e w' ⟨rfl, z, rfl⟩)
  go_ret
  exact ⟨rfl, (.of (by repeat (first | (with_reducible exact Ext.refl _) | (with_reducible refine Ext.up ?_ _) | (with_reducible refine Ext.alloc ?_ _) | (with_reducible refine Ext.drew ?_) | (with_reducible refine Ext.setRow ?_ (by first | exact LeS.le | exact LeS.add _ | (simp; done) | (simp; omega)) _) | (with_reducible refine Ext.setCell ?_ (by first | exact LeS.le | exact LeS.add _ | (simp; done) | (simp; omega)) _))))⟩
theorem conf_self (x : Actn) : conflict x x = x.ok := by
  have h : common x.wk x.wk = true := by
    unfold Actn.wk
    split
    · simp [common]
    · split <;> simp [common]
  unfold conflict conf
  rw [h, Bool.true_or, Bool.and_true, Bool.and_self]
end Go.Proofs.Ytmpojhnngnmpeaa
namespace Go.Proofs.Ytmpojhnngnmpeaa
open Go Go.RowKit Go.Proofs

theorem results_cell_row2 {P : Program} {fn : Func} {p q : Tmp} {ty : TypeId} (h : fn.results = #[.cell p ty, .tmp q]) (tmps : Array Value) (w : World) (g : Nat) (t : TypeId) (cs : Array Value) (fr : Nat × Nat) (d : TypeDesc) {v : Value}
    (hp : tmps.getD p undef = .pointer (some ⟨g, 0, none⟩)) (hq : tmps.getD q undef = v) (hg : w.heap[g]? = some (.cells cs t fr))
    (hu : P.underlying ty = some d) (hd : (match d with | .struct _ | .array _ _ => true | _ => false) = true) (hi : (P.info? ty).map (·.size) = some cs.size) :
    (results fn tmps).run P w = .ok (.tuple #[.agg cs, v]) w := by
  have hp' : tmps[p]?.getD undef = .pointer (some ⟨g, 0, none⟩) := by simpa using hp
  have hq' : tmps[q]?.getD undef = v := by simpa using hq
  simp [results, h, hp', hq', asAddr, run_loadVar_row w g t ty cs fr d hg hu hd hi]
set_option maxRecDepth 100000 in
set_option maxHeartbeats 2000000 in
theorem runAll_nil (v : List Int) (hv : v.length = 32) (p : Option Addr) (c : Nat) (w : World) :
    Calls Try.prog 117 #[.agg (vA v), .slice p 0 c] w fun e w' => e = .returned (.tuple #[.agg (vA v), .slice none 0 0]) ∧ Up w w' := by
  go_enter Try.func117, Try.ntmps117
  go_wp2_with fail
  go_loopw [6, 14] (fun s6 s14 wr => s14 = .int .i64 0 ∧ s6 = .slice none 0 0 ∧ Up w wr ∧ Row 91 wr w.heap.size v ∧ Row 91 wr (w.heap.size + 1) zeros) (fun _ _ _ => 0)
  case atStart => exact ⟨rfl, rfl, (.of (by repeat (first | (with_reducible exact Ext.refl _) | (with_reducible refine Ext.up ?_ _) | (with_reducible refine Ext.alloc ?_ _) | (with_reducible refine Ext.drew ?_) | (with_reducible refine Ext.setRow ?_ (by first | exact LeS.le | exact LeS.add _ | (simp; done) | (simp; omega)) _) | (with_reducible refine Ext.setCell ?_ (by first | exact LeS.le | exact LeS.add _ | (simp; done) | (simp; omega)) _)))), Row.of_eq (heap_alloc2_old _ _ _) rfl, Row.of_eq (heap_alloc2_new _ _ _) vA_zeros.symm⟩
  case round =>
    obtain ⟨rfl, rfl, ⟨z, rfl⟩, r0, r1⟩ := hrel
    have R0 := Lib.hid r0; have R1 := Lib.hid r1
    clear r0 r1
    go_wp2_with (first | (refine wpList_load_row rfl _ _ rfl _ rfl _ _ _ _ R0.out.eq Try.underlying91 rfl (by rw [vA_size, hv]; exact Try.sVals) ?_) | (refine wpList_store_row rfl _ _ _ rfl _ _ rfl rfl _ _ R1.out.eq (by rw [vA_size, hv]; exact Try.sVals) (by rw [vA_size, vA_size, hv, zeros_length]) (vA_one _) ?_))
    refine bodyPost_ret (results_cell_row2 (p := 4) (q := 5) (by kernel_rfl) _ _ (w.heap.size + 1) _ (vA v) (0, 0) _ rfl rfl (R1.out.setRow _).eq Try.underlying91 rfl (by rw [vA_size, hv]; exact Try.sVals)) rfl ⟨rfl, (.of (by repeat (first | exact Ext.refl _ | refine Ext.up ?_ _ | refine Ext.alloc ?_ _ | refine Ext.drew ?_ | refine Ext.setRow ?_ (by first | (dsimp only; omega) | exact LeS.le | exact LeS.add _ | (simp; done) | (simp; omega)) _ | refine Ext.setCell ?_ (by first | (dsimp only; omega) | exact LeS.le | exact LeS.add _ | (simp; done) | (simp; omega)) _)))⟩
set_option maxRecDepth 100000 in
set_option maxHeartbeats 2000000 in
theorem iRunSerial_nil (s : List Ent) (v : Value) (p : Option Addr) (c : Nat) (w : World) (h : SL (RF Ent.enc) 2 w v s) (hok : entsOk 1 s = true) :
    Calls Try.prog 81 #[v, .slice p 0 c] w fun e w' => ∃ v', e = .returned (.tuple #[v', .slice none 0 0]) ∧ Up w w' ∧ Own Ent.enc 83 2 w.heap.size w' v' s := by
  have H := Lib.hid h
  have kv := fun w h => iStoreValid_any s v w h
  simp only [hok] at kv
  have ka := fun w => iActionsValid_any [] (.slice p 0 c) w (SL.nil _ _ _ _ _)
  simp only [show actsOk [] = true from rfl] at ka
  have he := storeOf_valsOf hok
  have Hok := Lib.hid hok
  have tok : True := trivial
  clear h hok
  go_enter Try.func81, Try.ntmps81
  go_wp2_with (first | (go_at_call 76; refine (kv _ H.out).mono ?_; rintro e w' ⟨rfl, z1, rfl⟩) | (go_at_call 28; refine (ka _).mono ?_; rintro e w' ⟨rfl, z2, rfl⟩) | (go_at_call 118; refine (valuesOf_any 1 s _ _ (H.out.up (by repeat (first | (with_reducible exact Ext.refl _) | (with_reducible refine Ext.up ?_ _) | (with_reducible refine Ext.alloc ?_ _) | (with_reducible refine Ext.drew ?_) | (with_reducible refine Ext.setRow ?_ (by first | exact LeS.le | exact LeS.add _ | (simp; done) | (simp; omega)) _) | (with_reducible refine Ext.setCell ?_ (by first | exact LeS.le | exact LeS.add _ | (simp; done) | (simp; omega)) _)))) Hok.out).mono ?_; rintro e w' ⟨rfl, z3, rfl⟩) | (go_at_call 117; refine (runAll_nil (valsOf s) (valsOf_length s) p c _).mono ?_; rintro e w' ⟨rfl, z4, rfl⟩) | (have _t := tok; refine wpList_store_new rfl _ _ _ rfl rfl rfl rfl (by rw [valsOf_length]; exact Try.sVals) (by rw [valsOf_length]; rfl) ?_; intro z5 r5; clear _t tok; have R5 := Lib.hid r5; clear r5) | (refine wpList_load_row rfl _ _ rfl _ rfl _ _ _ _ R5.out.eq Try.underlying91 rfl (by rw [vA_size, valsOf_length]; exact Try.sVals) ?_) | (go_at_call 92; refine (store_any _ _ (valsOf_length s)).mono ?_; rintro e w' ⟨v', rfl, ⟨z6, rfl⟩, ho⟩; have HO := Lib.hid ho; clear ho))
  refine bodyPost_ret (v := .tuple #[v', .slice none 0 0]) (by simp [results, Try.results81, go_sem]) rfl ?_
  exact ⟨_, rfl, (.of (by repeat (first | (with_reducible exact Ext.refl _) | (with_reducible refine Ext.up ?_ _) | (with_reducible refine Ext.alloc ?_ _) | (with_reducible refine Ext.drew ?_) | (with_reducible refine Ext.setRow ?_ (by first | exact LeS.le | exact LeS.add _ | (simp; done) | (simp; omega)) _) | (with_reducible refine Ext.setCell ?_ (by first | exact LeS.le | exact LeS.add _ | (simp; done) | (simp; omega)) _)))), by have := HO.out; rw [he] at this; exact this.lo LeS.le⟩
set_option maxRecDepth 100000 in
set_option maxHeartbeats 2000000 in
theorem iBlockRight_first (s : List Ent) (v : Value) (p : Option Addr) (c : Nat) (w : World) (h : SL (RF Ent.enc) 2 w v s) (hok : entsOk 1 s = true) :
    Calls Try.prog 37 #[.agg #[.int .i64 (firstB s).bf, .int .i64 (firstB s).ht, .int .i64 (firstB s).vw, .slice p 0 c, .int .i64 (firstB s).rt, .int .i64 (firstB s).ef], v] w fun e w' => e = .returned (.bool true) ∧ Up w w' := by
  have H := Lib.hid h
  have kv := fun w h => iStoreValid_any s v w h
  simp only [hok] at kv
  have kb := fun w => iBlockValid_any (firstB s) [] (.slice p 0 c) w (SL.nil _ _ _ _ _)
  simp only [firstB_ok hok] at kb
  have kr := fun w h => iRunSerial_nil s v p c w h hok
  have kf := firstB_yes hok
  have Hok := Lib.hid hok
  clear h hok
  rw [kf] at kb ⊢
  clear kf
  go_enter Try.func37, Try.ntmps37
  go_wp2_with (first | (go_at_call 26; refine (kb _).mono ?_; rintro e w' ⟨rfl, z1, rfl⟩) | (go_at_call 76; refine (kv _ (H.out.up (by repeat (first | (with_reducible exact Ext.refl _) | (with_reducible refine Ext.up ?_ _) | (with_reducible refine Ext.alloc ?_ _) | (with_reducible refine Ext.drew ?_) | (with_reducible refine Ext.setRow ?_ (by first | exact LeS.le | exact LeS.add _ | (simp; done) | (simp; omega)) _) | (with_reducible refine Ext.setCell ?_ (by first | exact LeS.le | exact LeS.add _ | (simp; done) | (simp; omega)) _))))).mono ?_; rintro e w' ⟨rfl, z2, rfl⟩) | (go_at_call 81; refine (kr _ (H.out.up (by repeat (first | (with_reducible exact Ext.refl _) | (with_reducible refine Ext.up ?_ _) | (with_reducible refine Ext.alloc ?_ _) | (with_reducible refine Ext.drew ?_) | (with_reducible refine Ext.setRow ?_ (by first | exact LeS.le | exact LeS.add _ | (simp; done) | (simp; omega)) _) | (with_reducible refine Ext.setCell ?_ (by first | exact LeS.le | exact LeS.add _ | (simp; done) | (simp; omega)) _))))).mono ?_; rintro e w' ⟨v3, rfl, ⟨z3, rfl⟩, o3⟩))
  have O3 := Lib.hid o3; clear o3
  (refine wp_region_up (by kernel_rfl) (by kernel_rfl) ?_; (repeat (go_big_quiet_step (first | (go_at_call 77; exact Calls.up (iRootOf_any s _ _ ((O3.out.sl Ent.enc_length).up (by repeat (first | (with_reducible exact Ext.refl _) | (with_reducible refine Ext.up ?_ _) | (with_reducible refine Ext.alloc ?_ _) | (with_reducible refine Ext.drew ?_) | (with_reducible refine Ext.setRow ?_ (by first | exact LeS.le | exact LeS.add _ | (simp; done) | (simp; omega)) _) | (with_reducible refine Ext.setCell ?_ (by first | exact LeS.le | exact LeS.add _ | (simp; done) | (simp; omega)) _)))))) | (go_at_call 78; exact Calls.up (iEffectsSum_nil _))))); refine wpQuiet_nil ?_; intro _ hw'; obtain ⟨zq, hw''⟩ := hw'; subst hw'')
  go_wp2_with fail
  go_ret
  exact ⟨rfl, (.of (by repeat (first | (with_reducible exact Ext.refl _) | (with_reducible refine Ext.up ?_ _) | (with_reducible refine Ext.alloc ?_ _) | (with_reducible refine Ext.drew ?_) | (with_reducible refine Ext.setRow ?_ (by first | exact LeS.le | exact LeS.add _ | (simp; done) | (simp; omega)) _) | (with_reducible refine Ext.setCell ?_ (by first | exact LeS.le | exact LeS.add _ | (simp; done) | (simp; omega)) _))))⟩
end Go.Proofs.Ytmpojhnngnmpeaa
namespace Go.Proofs.Ytmpojhnngnmpeaa
open Go Go.RowKit Go.Proofs

set_option maxRecDepth 100000 in
set_option maxHeartbeats 2000000 in
theorem sameBlock_nil (b : Blk) (p p' : Option Addr) (c c' : Nat) (w : World) :
    Calls Try.prog 34 #[.agg #[.int .i64 b.bf, .int .i64 b.ht, .int .i64 b.vw, .slice p 0 c, .int .i64 b.rt, .int .i64 b.ef], .agg #[.int .i64 b.bf, .int .i64 b.ht, .int .i64 b.vw, .slice p' 0 c', .int .i64 b.rt, .int .i64 b.ef]] w fun e w' => e = .returned (.bool true) ∧ Up w w' := by
  go_enter Try.func34, Try.ntmps34
  go_wp2_with fail
  go_loopw [5] (fun s5 wr => s5 = .int .i64 0 ∧ Up ((w.alloc (.cells #[.int .i64 b.bf, .int .i64 b.ht, .int .i64 b.vw, .slice p 0 c, .int .i64 b.rt, .int .i64 b.ef] 36)).alloc (.cells #[.int .i64 b.bf, .int .i64 b.ht, .int .i64 b.vw, .slice p' 0 c', .int .i64 b.rt, .int .i64 b.ef] 36)) wr) (fun _ _ => 0)
  case atStart => exact ⟨rfl, (.of (by repeat (first | (with_reducible exact Ext.refl _) | (with_reducible refine Ext.up ?_ _) | (with_reducible refine Ext.alloc ?_ _) | (with_reducible refine Ext.drew ?_) | (with_reducible refine Ext.setRow ?_ (by first | exact LeS.le | exact LeS.add _ | (simp; done) | (simp; omega)) _) | (with_reducible refine Ext.setCell ?_ (by first | exact LeS.le | exact LeS.add _ | (simp; done) | (simp; omega)) _))))⟩
  case round =>
    obtain ⟨rfl, ⟨z, rfl⟩⟩ := hrel
    go_wp2_with fail
    go_ret
    exact ⟨rfl, (.of (by repeat (first | (with_reducible exact Ext.refl _) | (with_reducible refine Ext.up ?_ _) | (with_reducible refine Ext.alloc ?_ _) | (with_reducible refine Ext.drew ?_) | (with_reducible refine Ext.setRow ?_ (by first | exact LeS.le | exact LeS.add _ | (simp; done) | (simp; omega)) _) | (with_reducible refine Ext.setCell ?_ (by first | exact LeS.le | exact LeS.add _ | (simp; done) | (simp; omega)) _))))⟩
set_option maxRecDepth 100000 in
theorem drawFirstBlock_any (bs : List Int) (v : Value) (w : World) (h : SL (RF encU) 1 w v bs) (hb : ∀ b ∈ bs, 0 ≤ b ∧ b ≤ 255) :
    Calls Try.prog 32 #[v] w fun e w' => ∃ v' l, e = .returned v' ∧ Up w w' ∧ l.length ≤ 33 ∧ Own Ent.enc 83 2 w.heap.size w' v' l := by
  have H := Lib.hid h; clear h
  go_enter Try.func32, Try.ntmps32
  go_wp2_with fail
  refine (open_any bs v _ H.out hb).mono ?_; rintro e w' ⟨rb, rfl, ⟨z0, rfl⟩, hr⟩
  have H0 := Lib.hid hr
  have Hold := Lib.hid hr.old
  clear hr
  go_wp2_with fail
  refine (drawStore_any _ _ rb _ 6 H0.out (by omega) (by omega) (by omega)).mono ?_; rintro e w' ⟨y, l, rfl, hl, _, ⟨z1, rfl⟩, hr, ho⟩
  have E : Ext w z1.val := Ext.upR z0.ext Hold.out z1
  go_wp2_with fail
  go_ret
  exact ⟨_, l, rfl, .of E, hl, ho.lo z0.ext.size⟩
set_option maxRecDepth 100000 in
set_option maxHeartbeats 2000000 in
theorem FnFirstBlock_any (bs : List Int) (v : Value) (w : World) (h : SL (RF encU) 1 w v bs) (hb : ∀ b ∈ bs, 0 ≤ b ∧ b ≤ 255) :
    Calls Try.prog 9 #[v] w fun e w' => e = .returned (.bool true) ∧ Up w w' := by
  have H := Lib.hid h
  obtain ⟨p, c, rfl, _, _⟩ := h.openc
  clear h
  by_cases hl : 1048576 < bs.length
  · go_enter Try.func9, Try.ntmps9
    go_wp2_with fail
    go_ret
    exact ⟨rfl, (.of (by repeat (first | (with_reducible exact Ext.refl _) | (with_reducible refine Ext.up ?_ _) | (with_reducible refine Ext.alloc ?_ _) | (with_reducible refine Ext.drew ?_) | (with_reducible refine Ext.setRow ?_ (by first | exact LeS.le | exact LeS.add _ | (simp; done) | (simp; omega)) _) | (with_reducible refine Ext.setCell ?_ (by first | exact LeS.le | exact LeS.add _ | (simp; done) | (simp; omega)) _))))⟩
  go_enter Try.func9, Try.ntmps9
  go_wp2_with fail
  refine (drawFirstBlock_any bs _ _ (H.out.up (by repeat (first | (with_reducible exact Ext.refl _) | (with_reducible refine Ext.up ?_ _) | (with_reducible refine Ext.alloc ?_ _) | (with_reducible refine Ext.drew ?_) | (with_reducible refine Ext.setRow ?_ (by first | exact LeS.le | exact LeS.add _ | (simp; done) | (simp; omega)) _) | (with_reducible refine Ext.setCell ?_ (by first | exact LeS.le | exact LeS.add _ | (simp; done) | (simp; omega)) _)))) hb).mono ?_; rintro e w' ⟨v1, s, rfl, ⟨z0, rfl⟩, hll, ho⟩
  have HO := Lib.hid (ho.sl Ent.enc_length); clear ho
  have kv := fun w h => sStoreValid_any s v1 w h
  have ki : ∀ w, SL (RF Ent.enc) 2 w v1 s → Calls Try.prog 33 #[v1] w fun e w' => e = .returned (.agg #[.int .i64 (firstB s).bf, .int .i64 (firstB s).ht, .int .i64 (firstB s).vw, .slice none 0 0, .int .i64 (firstB s).rt, .int .i64 (firstB s).ef]) ∧ Up w w' := fun w h => iFirstBlock_any s v1 w h
  have ks : ∀ w, SL (RF Ent.enc) 2 w v1 s → Calls Try.prog 35 #[v1] w fun e w' => e = .returned (.agg #[.int .i64 (firstB s).bf, .int .i64 (firstB s).ht, .int .i64 (firstB s).vw, .slice none 0 0, .int .i64 (firstB s).rt, .int .i64 (firstB s).ef]) ∧ Up w w' := fun w h => sFirstBlock_any s v1 w h
  rcases hok : entsOk 1 s with _ | _
  · simp only [hok] at kv
    have hf := firstB_no hok
    rw [hf] at ki ks
    have kq := fun w => sameBlock_nil ⟨0, 0, 0, 0, 0⟩ none none 0 0 w
    clear hok hf
    go_wp2_with (go_at_call 33; refine (ki _ (HO.out.up (by repeat (first | (with_reducible exact Ext.refl _) | (with_reducible refine Ext.up ?_ _) | (with_reducible refine Ext.alloc ?_ _) | (with_reducible refine Ext.drew ?_) | (with_reducible refine Ext.setRow ?_ (by first | exact LeS.le | exact LeS.add _ | (simp; done) | (simp; omega)) _) | (with_reducible refine Ext.setCell ?_ (by first | exact LeS.le | exact LeS.add _ | (simp; done) | (simp; omega)) _))))).mono ?_; rintro e w' ⟨rfl, z1, rfl⟩)
    (refine wp_region_up (by kernel_rfl) (by kernel_rfl) ?_; (repeat (go_big_quiet_step (first | (go_at_call 35; exact Calls.up (ks _ (HO.out.up (by repeat (first | (with_reducible exact Ext.refl _) | (with_reducible refine Ext.up ?_ _) | (with_reducible refine Ext.alloc ?_ _) | (with_reducible refine Ext.drew ?_) | (with_reducible refine Ext.setRow ?_ (by first | exact LeS.le | exact LeS.add _ | (simp; done) | (simp; omega)) _) | (with_reducible refine Ext.setCell ?_ (by first | exact LeS.le | exact LeS.add _ | (simp; done) | (simp; omega)) _)))))) | (go_at_call 34; exact Calls.up (kq _))))); refine wpQuiet_nil ?_; intro _ hw'; obtain ⟨zq, hw''⟩ := hw'; subst hw'')
    go_wp2_with (first | (go_at_call 36; refine (kv _ (HO.out.up (by repeat (first | (with_reducible exact Ext.refl _) | (with_reducible refine Ext.up ?_ _) | (with_reducible refine Ext.alloc ?_ _) | (with_reducible refine Ext.drew ?_) | (with_reducible refine Ext.setRow ?_ (by first | exact LeS.le | exact LeS.add _ | (simp; done) | (simp; omega)) _) | (with_reducible refine Ext.setCell ?_ (by first | exact LeS.le | exact LeS.add _ | (simp; done) | (simp; omega)) _))))).mono ?_; rintro e w' ⟨rfl, z2, rfl⟩) | (go_at_call 18; refine (alive_any _).mono ?_; rintro e w' ⟨rfl, z3, rfl⟩))
    go_ret
    exact ⟨rfl, (.of (by repeat (first | (with_reducible exact Ext.refl _) | (with_reducible refine Ext.up ?_ _) | (with_reducible refine Ext.alloc ?_ _) | (with_reducible refine Ext.drew ?_) | (with_reducible refine Ext.setRow ?_ (by first | exact LeS.le | exact LeS.add _ | (simp; done) | (simp; omega)) _) | (with_reducible refine Ext.setCell ?_ (by first | exact LeS.le | exact LeS.add _ | (simp; done) | (simp; omega)) _))))⟩
  simp only [hok] at kv
  have kr := fun w h => iBlockRight_first s v1 none 0 w h hok
  have kb := fun w => iBlockValid_any (firstB s) [] (.slice none 0 0) w (SL.nil _ _ _ _ _)
  simp only [firstB_ok hok] at kb
  have hf := firstB_yes hok
  rw [hf] at ki ks kr kb
  have kq := fun w => sameBlock_nil ⟨0, 0, 0, rootOf s, 21⟩ none none 0 0 w
  clear hok hf
  generalize rootOf s = r at *
  go_wp2_with (go_at_call 33; refine (ki _ (HO.out.up (by repeat (first | (with_reducible exact Ext.refl _) | (with_reducible refine Ext.up ?_ _) | (with_reducible refine Ext.alloc ?_ _) | (with_reducible refine Ext.drew ?_) | (with_reducible refine Ext.setRow ?_ (by first | exact LeS.le | exact LeS.add _ | (simp; done) | (simp; omega)) _) | (with_reducible refine Ext.setCell ?_ (by first | exact LeS.le | exact LeS.add _ | (simp; done) | (simp; omega)) _))))).mono ?_; rintro e w' ⟨rfl, z1, rfl⟩)
  (refine wp_region_up (by kernel_rfl) (by kernel_rfl) ?_; (repeat (go_big_quiet_step (first | (go_at_call 35; exact Calls.up (ks _ (HO.out.up (by repeat (first | (with_reducible exact Ext.refl _) | (with_reducible refine Ext.up ?_ _) | (with_reducible refine Ext.alloc ?_ _) | (with_reducible refine Ext.drew ?_) | (with_reducible refine Ext.setRow ?_ (by first | exact LeS.le | exact LeS.add _ | (simp; done) | (simp; omega)) _) | (with_reducible refine Ext.setCell ?_ (by first | exact LeS.le | exact LeS.add _ | (simp; done) | (simp; omega)) _)))))) | (go_at_call 34; exact Calls.up (kq _))))); refine wpQuiet_nil ?_; intro _ hw'; obtain ⟨zq, hw''⟩ := hw'; subst hw'')
  go_wp2_with (first | (go_at_call 36; refine (kv _ (HO.out.up (by repeat (first | (with_reducible exact Ext.refl _) | (with_reducible refine Ext.up ?_ _) | (with_reducible refine Ext.alloc ?_ _) | (with_reducible refine Ext.drew ?_) | (with_reducible refine Ext.setRow ?_ (by first | exact LeS.le | exact LeS.add _ | (simp; done) | (simp; omega)) _) | (with_reducible refine Ext.setCell ?_ (by first | exact LeS.le | exact LeS.add _ | (simp; done) | (simp; omega)) _))))).mono ?_; rintro e w' ⟨rfl, z2, rfl⟩) | (go_at_call 26; refine (kb _).mono ?_; rintro e w' ⟨rfl, z3, rfl⟩) | (go_at_call 37; refine (kr _ (HO.out.up (by repeat (first | (with_reducible exact Ext.refl _) | (with_reducible refine Ext.up ?_ _) | (with_reducible refine Ext.alloc ?_ _) | (with_reducible refine Ext.drew ?_) | (with_reducible refine Ext.setRow ?_ (by first | exact LeS.le | exact LeS.add _ | (simp; done) | (simp; omega)) _) | (with_reducible refine Ext.setCell ?_ (by first | exact LeS.le | exact LeS.add _ | (simp; done) | (simp; omega)) _))))).mono ?_; rintro e w' ⟨rfl, z4, rfl⟩))
  go_ret
  exact ⟨rfl, (.of (by repeat (first | (with_reducible exact Ext.refl _) | (with_reducible refine Ext.up ?_ _) | (with_reducible refine Ext.alloc ?_ _) | (with_reducible refine Ext.drew ?_) | (with_reducible refine Ext.setRow ?_ (by first | exact LeS.le | exact LeS.add _ | (simp; done) | (simp; omega)) _) | (with_reducible refine Ext.setCell ?_ (by first | exact LeS.le | exact LeS.add _ | (simp; done) | (simp; omega)) _))))⟩
end Go.Proofs.Ytmpojhnngnmpeaa
namespace Go.Proofs.Ytmpojhnngnmpeaa
open Go.ChangeShapes Go.WideShapes Go.ChangeAt Go.RowKit

def RByte (_ : World) (cs : List Value) (n : Int) : Prop := cs = encU n ∧ 0 ≤ n ∧ n ≤ 255
theorem SL.of_byte {w : World} {v : Value} {l : List Int} (h : SL RByte 1 w v l) : SL (RF encU) 1 w v l ∧ ∀ b ∈ l, 0 ≤ b ∧ b ≤ 255 := by
  obtain ⟨a, cap, hv, hl, hc⟩ := h
  refine ⟨⟨a, cap, hv, hl, fun hne => ?_⟩, fun b hb => ?_⟩
  · obtain ⟨b, off, ha, hb, hx⟩ := hc hne
    refine ⟨b, off, ha, hb, fun i x hi => ?_⟩
    obtain ⟨cs, h1, h2, h3⟩ := hx i x hi
    exact ⟨cs, h1, h2, h3.1⟩
  · obtain ⟨i, hi⟩ := List.getElem?_of_mem hb
    obtain ⟨_, _, _, _, hx⟩ := hc (by intro e; subst e; simp at hb)
    obtain ⟨_, _, _, h3⟩ := hx i b hi
    exact h3.2
theorem dec_Byte : Dec Try.prog 5 1 RByte := by
  intro H enc W sp held fuel cs x h
  obtain ⟨n, rfl, _, hw⟩ := DataW.trod_int (k := .u8) Try.underlying5 h
  have hb : 0 ≤ n ∧ n ≤ 255 := by
    simp [Lit.wf, IntKind.min, IntKind.max, IntKind.signed, IntKind.bits] at hw
    omega
  exact ⟨rfl, n, rfl, hb.1, hb.2⟩
theorem dec_Bytes : Dec Try.prog 22 1 (RSl RByte 1) := dec_slice Try.underlying22 (by kernel_rfl) (by decide) dec_Byte
end Go.Proofs.Ytmpojhnngnmpeaa
