/- Walks: readers are opened; alive. The law FnConflictSelf's walk. Walks: runs without actions; first blocks are right. Walks: actions one after the other, on the program's side. Walks: slices.Reverse at numbers; ways to blocks, the program's side. -/
import Derived.Test.YteiemjebdhmnaaaGSoTop07
import Derived.Test.YteiemjebdhmnaaaGSoTop04
import Derived.Test.YteiemjebdhmnaaaGSoTop18
import Derived.Test.YteiemjebdhmnaaaGSoTop05
import Derived.Test.YteiemjebdhmnaaaGSoTop13
import Derived.Test.YteiemjebdhmnaaaGSoTop15
import Derived.Test.YteiemjebdhmnaaaGSoTop10
import Derived.Test.YteiemjebdhmnaaaGSoTop11
import Derived.Shelf.RegionOpenPlain
import Derived.Sort.WalkB12
import Derived.Lib.SlicesMore
import Derived.Sort.Grow
set_option linter.unusedSimpArgs false
set_option linter.unusedVariables false
namespace Go.Proofs.Yteiemjebdhmnaaa
open Go Go.RowKit Go.Proofs

set_option maxRecDepth 100000 in
theorem open_any (bs : List Int) (v : Value) (w : World) (h : SL (RF encU) 1 w v bs) (hb : ∀ b ∈ bs, 0 ≤ b ∧ b ≤ 255) :
    Calls Try.prog 28 #[v] w fun e w' => ∃ rb, e = .returned (.pointer (some ⟨rb, 0, none⟩)) ∧ Up w w' ∧ Rd w w' rb 0 := by
  have hs := h
  obtain ⟨p, c, rfl, hl, hc⟩ := h.openc
  have Hs := Lib.hid hs; clear h hs
  by_cases hlen : 2000 < bs.length
  · obtain ⟨p', c', e', _, hcc⟩ := Hs.out.open
    cases e'
    obtain ⟨x, hx⟩ := getElem?_some_of_lt (show 0 < bs.length by omega)
    obtain ⟨b, off, rfl, _, _⟩ := hcc 0 x hx
    clear hcc hx
    have h2 : (2000 : Int) ≤ (c : Int) := by omega
    go_enter Try.func28, Try.ntmps28
    go_wp2_with fail
    go_ret
    have ht : (bs.take 2000).length = 2000 := by rw [List.length_take]; omega
    have hst := SL.take Hs.out (k := 2000) (by omega)
    refine ⟨w.heap.size, rfl, (.of (by repeat (first | (with_reducible exact Ext.refl _) | (with_reducible refine Ext.up ?_ _) | (with_reducible refine Ext.alloc ?_ _) | (with_reducible refine Ext.drew ?_) | (with_reducible refine Ext.setRow ?_ (by first | exact LeS.le | exact LeS.add _ | (simp; done) | (simp; omega)) _) | (with_reducible refine Ext.setCell ?_ (by first | exact LeS.le | exact LeS.add _ | (simp; done) | (simp; omega)) _)))), (by repeat (first | (with_reducible exact Ext.refl _) | (with_reducible refine Ext.up ?_ _) | (with_reducible refine Ext.alloc ?_ _) | (with_reducible refine Ext.drew ?_) | (with_reducible refine Ext.setRow ?_ (by first | exact LeS.le | exact LeS.add _ | (simp; done) | (simp; omega)) _) | (with_reducible refine Ext.setCell ?_ (by first | exact LeS.le | exact LeS.add _ | (simp; done) | (simp; omega)) _))), Nat.le_refl _, _, bs.take 2000, 0, _, heap_alloc_new w _, hst, by omega, fun b hbm => hb b (List.mem_of_mem_take hbm), by omega, by omega⟩
  · go_enter Try.func28, Try.ntmps28
    go_wp2_with fail
    go_ret
    refine ⟨w.heap.size, rfl, (.of (by repeat (first | (with_reducible exact Ext.refl _) | (with_reducible refine Ext.up ?_ _) | (with_reducible refine Ext.alloc ?_ _) | (with_reducible refine Ext.drew ?_) | (with_reducible refine Ext.setRow ?_ (by first | exact LeS.le | exact LeS.add _ | (simp; done) | (simp; omega)) _) | (with_reducible refine Ext.setCell ?_ (by first | exact LeS.le | exact LeS.add _ | (simp; done) | (simp; omega)) _)))), (by repeat (first | (with_reducible exact Ext.refl _) | (with_reducible refine Ext.up ?_ _) | (with_reducible refine Ext.alloc ?_ _) | (with_reducible refine Ext.drew ?_) | (with_reducible refine Ext.setRow ?_ (by first | exact LeS.le | exact LeS.add _ | (simp; done) | (simp; omega)) _) | (with_reducible refine Ext.setCell ?_ (by first | exact LeS.le | exact LeS.add _ | (simp; done) | (simp; omega)) _))), Nat.le_refl _, _, bs, 0, _, heap_alloc_new w _, Hs.out, by omega, hb, by omega, by omega⟩
theorem alive_any (w : World) : Calls Try.prog 12 #[] w fun e w' => e = .returned (.bool true) ∧ Up w w' := by
  have hs : sumOf 0 [] = 17 := rfl
  have k := fun a c w => sumOf_any 0 [] (.slice a 0 c) w (SL.nil _ _ _ _ _)
  rw [hs] at k
  go_enter Try.func12, Try.ntmps12
  go_wp2_with (go_at_call 42; refine (k _ _ _).mono ?_; rintro e w' ⟨rfl, z, rfl⟩)
  go_ret
  exact ⟨rfl, (.of (by repeat (first | (with_reducible exact Ext.refl _) | (with_reducible refine Ext.up ?_ _) | (with_reducible refine Ext.alloc ?_ _) | (with_reducible refine Ext.drew ?_) | (with_reducible refine Ext.setRow ?_ (by first | exact LeS.le | exact LeS.add _ | (simp; done) | (simp; omega)) _) | (with_reducible refine Ext.setCell ?_ (by first | exact LeS.le | exact LeS.add _ | (simp; done) | (simp; omega)) _))))⟩
end Go.Proofs.Yteiemjebdhmnaaa
namespace Go.Proofs.Yteiemjebdhmnaaa
open Go Go.RowKit Go.Proofs

theorem conf_self (x : Actn) : conflict x x = x.ok := by
  have h : common x.wk x.wk = true := by
    unfold Actn.wk
    split
    · simp [common]
    · split <;> simp [common]
  unfold conflict conf
  rw [h, Bool.true_or, Bool.and_true, Bool.and_self]
end Go.Proofs.Yteiemjebdhmnaaa
namespace Go.Proofs.Yteiemjebdhmnaaa
open Go Go.RowKit Go.Proofs

theorem results_cell_row2 {P : Program} {fn : Func} {p q : Tmp} {ty : TypeId} (h : fn.results = #[.cell p ty, .tmp q]) (tmps : Array Value) (w : World) (g : Nat) (t : TypeId) (cs : Array Value) (fr : Nat × Nat) (d : TypeDesc) {v : Value}
    (hp : tmps.getD p undef = .pointer (some ⟨g, 0, none⟩)) (hq : tmps.getD q undef = v) (hg : w.heap[g]? = some (.cells cs t fr))
    (hu : P.underlying ty = some d) (hd : (match d with | .struct _ | .array _ _ => true | _ => false) = true) (hi : (P.info? ty).map (·.size) = some cs.size) :
    (results fn tmps).run P w = .ok (.tuple #[.agg cs, v]) w := by
  have hp' : tmps[p]?.getD undef = .pointer (some ⟨g, 0, none⟩) := by simpa using hp
  have hq' : tmps[q]?.getD undef = v := by simpa using hq
  simp [results, h, hp', hq', asAddr, run_loadVar_row w g t ty cs fr d hg hu hd hi]
set_option maxRecDepth 100000 in
set_option maxHeartbeats 2000000 in
theorem runAll_nil (v : List Int) (hv : v.length = 32) (p : Option Addr) (c : Nat) (w : World) :
    Calls Try.prog 44 #[.agg (vA v), .slice p 0 c] w fun e w' => e = .returned (.tuple #[.agg (vA v), .slice none 0 0]) ∧ Up w w' := by
  go_enter Try.func44, Try.ntmps44
  go_wp2_with fail
  go_loopw [6, 14] (fun s6 s14 wr => s14 = .int .i64 0 ∧ s6 = .slice none 0 0 ∧ Up w wr ∧ Row 57 wr w.heap.size v ∧ Row 57 wr (w.heap.size + 1) zeros) (fun _ _ _ => 0)
  case atStart => exact ⟨rfl, rfl, (.of (by repeat (first | (with_reducible exact Ext.refl _) | (with_reducible refine Ext.up ?_ _) | (with_reducible refine Ext.alloc ?_ _) | (with_reducible refine Ext.drew ?_) | (with_reducible refine Ext.setRow ?_ (by first | exact LeS.le | exact LeS.add _ | (simp; done) | (simp; omega)) _) | (with_reducible refine Ext.setCell ?_ (by first | exact LeS.le | exact LeS.add _ | (simp; done) | (simp; omega)) _)))), Row.of_eq (heap_alloc2_old _ _ _) rfl, Row.of_eq (heap_alloc2_new _ _ _) vA_zeros.symm⟩
  case round =>
    obtain ⟨rfl, rfl, ⟨z, rfl⟩, r0, r1⟩ := hrel
    have R0 := Lib.hid r0; have R1 := Lib.hid r1
    clear r0 r1
    go_wp2_with (first | (refine wpList_load_row rfl _ _ rfl _ rfl _ _ _ _ R0.out.eq Try.underlying57 rfl (by rw [vA_size, hv]; exact Try.sVals) ?_) | (refine wpList_store_row rfl _ _ _ rfl _ _ rfl rfl _ _ R1.out.eq (by rw [vA_size, hv]; exact Try.sVals) (by rw [vA_size, vA_size, hv, zeros_length]) (vA_one _) ?_))
    refine bodyPost_ret (results_cell_row2 (p := 4) (q := 5) (by kernel_rfl) _ _ (w.heap.size + 1) _ (vA v) (0, 0) _ rfl rfl (R1.out.setRow _).eq Try.underlying57 rfl (by rw [vA_size, hv]; exact Try.sVals)) rfl ⟨rfl, (.of (by repeat (first | exact Ext.refl _ | refine Ext.up ?_ _ | refine Ext.alloc ?_ _ | refine Ext.drew ?_ | refine Ext.setRow ?_ (by first | (dsimp only; omega) | exact LeS.le | exact LeS.add _ | (simp; done) | (simp; omega)) _ | refine Ext.setCell ?_ (by first | (dsimp only; omega) | exact LeS.le | exact LeS.add _ | (simp; done) | (simp; omega)) _)))⟩
set_option maxRecDepth 100000 in
set_option maxHeartbeats 2000000 in
theorem iRunSerial_nil (s : List Ent) (v : Value) (p : Option Addr) (c : Nat) (w : World) (h : SL (RF Ent.enc) 2 w v s) (hok : entsOk 1 s = true) :
    Calls Try.prog 13 #[v, .slice p 0 c] w fun e w' => ∃ v', e = .returned (.tuple #[v', .slice none 0 0]) ∧ Up w w' ∧ Own Ent.enc 61 2 w.heap.size w' v' s := by
  have H := Lib.hid h
  have kv := fun w h => iStoreValid_any s v w h
  simp only [hok] at kv
  have ka := fun w => iActionsValid_any [] (.slice p 0 c) w (SL.nil _ _ _ _ _)
  simp only [show actsOk [] = true from rfl] at ka
  have he := storeOf_valsOf hok
  have Hok := Lib.hid hok
  have tok : True := trivial
  clear h hok
  go_enter Try.func13, Try.ntmps13
  go_wp2_with (first | (go_at_call 14; refine (kv _ H.out).mono ?_; rintro e w' ⟨rfl, z1, rfl⟩) | (go_at_call 43; refine (ka _).mono ?_; rintro e w' ⟨rfl, z2, rfl⟩) | (go_at_call 45; refine (valuesOf_any 1 s _ _ (H.out.up (by repeat (first | (with_reducible exact Ext.refl _) | (with_reducible refine Ext.up ?_ _) | (with_reducible refine Ext.alloc ?_ _) | (with_reducible refine Ext.drew ?_) | (with_reducible refine Ext.setRow ?_ (by first | exact LeS.le | exact LeS.add _ | (simp; done) | (simp; omega)) _) | (with_reducible refine Ext.setCell ?_ (by first | exact LeS.le | exact LeS.add _ | (simp; done) | (simp; omega)) _)))) Hok.out).mono ?_; rintro e w' ⟨rfl, z3, rfl⟩) | (go_at_call 44; refine (runAll_nil (valsOf s) (valsOf_length s) p c _).mono ?_; rintro e w' ⟨rfl, z4, rfl⟩) | (have _t := tok; refine wpList_store_new rfl _ _ _ rfl rfl rfl rfl (by rw [valsOf_length]; exact Try.sVals) (by rw [valsOf_length]; rfl) ?_; intro z5 r5; clear _t tok; have R5 := Lib.hid r5; clear r5) | (refine wpList_load_row rfl _ _ rfl _ rfl _ _ _ _ R5.out.eq Try.underlying57 rfl (by rw [vA_size, valsOf_length]; exact Try.sVals) ?_) | (go_at_call 32; refine (store_any _ _ (valsOf_length s)).mono ?_; rintro e w' ⟨v', rfl, ⟨z6, rfl⟩, ho⟩; have HO := Lib.hid ho; clear ho))
  refine bodyPost_ret (v := .tuple #[v', .slice none 0 0]) (by simp [results, Try.results13, go_sem]) rfl ?_
  exact ⟨_, rfl, (.of (by repeat (first | (with_reducible exact Ext.refl _) | (with_reducible refine Ext.up ?_ _) | (with_reducible refine Ext.alloc ?_ _) | (with_reducible refine Ext.drew ?_) | (with_reducible refine Ext.setRow ?_ (by first | exact LeS.le | exact LeS.add _ | (simp; done) | (simp; omega)) _) | (with_reducible refine Ext.setCell ?_ (by first | exact LeS.le | exact LeS.add _ | (simp; done) | (simp; omega)) _)))), by have := HO.out; rw [he] at this; exact this.lo LeS.le⟩
set_option maxRecDepth 100000 in
set_option maxHeartbeats 2000000 in
theorem iBlockRight_first (s : List Ent) (v : Value) (p : Option Addr) (c : Nat) (w : World) (h : SL (RF Ent.enc) 2 w v s) (hok : entsOk 1 s = true) :
    Calls Try.prog 18 #[.agg #[.int .i64 (firstB s).bf, .int .i64 (firstB s).ht, .int .i64 (firstB s).vw, .slice p 0 c, .int .i64 (firstB s).rt, .int .i64 (firstB s).ef], v] w fun e w' => e = .returned (.bool true) ∧ Up w w' := by
  have H := Lib.hid h
  have kv := fun w h => iStoreValid_any s v w h
  simp only [hok] at kv
  have kb := fun w => iBlockValid_any (firstB s) [] (.slice p 0 c) w (SL.nil _ _ _ _ _)
  simp only [firstB_ok hok] at kb
  have kr := fun w h => iRunSerial_nil s v p c w h hok
  have kf := firstB_yes hok
  have Hok := Lib.hid hok
  clear h hok
  rw [kf] at kb ⊢
  clear kf
  go_enter Try.func18, Try.ntmps18
  go_wp2_with (first | (go_at_call 49; refine (kb _).mono ?_; rintro e w' ⟨rfl, z1, rfl⟩) | (go_at_call 14; refine (kv _ (H.out.up (by repeat (first | (with_reducible exact Ext.refl _) | (with_reducible refine Ext.up ?_ _) | (with_reducible refine Ext.alloc ?_ _) | (with_reducible refine Ext.drew ?_) | (with_reducible refine Ext.setRow ?_ (by first | exact LeS.le | exact LeS.add _ | (simp; done) | (simp; omega)) _) | (with_reducible refine Ext.setCell ?_ (by first | exact LeS.le | exact LeS.add _ | (simp; done) | (simp; omega)) _))))).mono ?_; rintro e w' ⟨rfl, z2, rfl⟩) | (go_at_call 13; refine (kr _ (H.out.up (by repeat (first | (with_reducible exact Ext.refl _) | (with_reducible refine Ext.up ?_ _) | (with_reducible refine Ext.alloc ?_ _) | (with_reducible refine Ext.drew ?_) | (with_reducible refine Ext.setRow ?_ (by first | exact LeS.le | exact LeS.add _ | (simp; done) | (simp; omega)) _) | (with_reducible refine Ext.setCell ?_ (by first | exact LeS.le | exact LeS.add _ | (simp; done) | (simp; omega)) _))))).mono ?_; rintro e w' ⟨v3, rfl, ⟨z3, rfl⟩, o3⟩))
  have O3 := Lib.hid o3; clear o3
  (refine wp_region_up (by kernel_rfl) (by kernel_rfl) ?_; (repeat (go_big_quiet_step (first | (go_at_call 19; exact Calls.up (iRootOf_any s _ _ ((O3.out.sl Ent.enc_length).up (by repeat (first | (with_reducible exact Ext.refl _) | (with_reducible refine Ext.up ?_ _) | (with_reducible refine Ext.alloc ?_ _) | (with_reducible refine Ext.drew ?_) | (with_reducible refine Ext.setRow ?_ (by first | exact LeS.le | exact LeS.add _ | (simp; done) | (simp; omega)) _) | (with_reducible refine Ext.setCell ?_ (by first | exact LeS.le | exact LeS.add _ | (simp; done) | (simp; omega)) _)))))) | (go_at_call 22; exact Calls.up (iEffectsSum_nil _))))); refine wpQuiet_nil ?_; intro _ hw'; obtain ⟨zq, hw''⟩ := hw'; subst hw'')
  go_wp2_with fail
  go_ret
  exact ⟨rfl, (.of (by repeat (first | (with_reducible exact Ext.refl _) | (with_reducible refine Ext.up ?_ _) | (with_reducible refine Ext.alloc ?_ _) | (with_reducible refine Ext.drew ?_) | (with_reducible refine Ext.setRow ?_ (by first | exact LeS.le | exact LeS.add _ | (simp; done) | (simp; omega)) _) | (with_reducible refine Ext.setCell ?_ (by first | exact LeS.le | exact LeS.add _ | (simp; done) | (simp; omega)) _))))⟩
end Go.Proofs.Yteiemjebdhmnaaa
namespace Go.Proofs.Yteiemjebdhmnaaa
open Go Go.RowKit Go.Proofs

theorem OE.keepR {eT eE lo rb : Nat} {w w' : World} {v : Value} {ts : List TE} (h : OE eT eE lo w v ts) (hg : w.grownBy w' (some rb)) (hlt : rb < lo) : OE eT eE lo w' v ts :=
  ⟨Own.kept h.1 hg (h.1.ne_rb hlt), fun x hx => ⟨⟨Own.kept (h.2 x hx).1.1 hg ((h.2 x hx).1.1.ne_rb hlt), (h.2 x hx).1.2⟩, ⟨Own.kept (h.2 x hx).2.1 hg ((h.2 x hx).2.1.ne_rb hlt), (h.2 x hx).2.2⟩⟩⟩
theorem runStep_len {v : List Int} {l : List Actn} (hv : v.length = 32) : (runAll v l).1.length = 32 := by
  have key : ∀ (l : List Actn) (p : List Int × List Eff), (l.foldl runStep p).1.length = p.1.length := by
    intro l
    induction l with
    | nil => intro p; rfl
    | cons x l ih => intro p; rw [List.foldl_cons, ih]; exact vsets_length _ _
  exact (key l (v, [])).trans hv
theorem rowKept {α : Type} {enc : α → List Value} {e sz lo rb : Nat} {W1 w7 : World} {v : Value} {l : List α} {o r : Obj} (hown : Own enc e sz lo W1 v l) (hlt : rb < lo) (hr : W1.heap[rb]? = some r) (g8 : (W1.alloc o).grownBy w7 v.ownBlock) : w7.heap[rb]? = some r := by
  have hs : rb < W1.heap.size := (Array.getElem?_eq_some_iff.1 hr).1
  refine (g8.block rb (by simp; omega) (fun e => ?_)).trans ((heap_alloc_old W1 o hs).trans hr)
  rcases hown.ne_rb hlt with h | h
  · rw [h] at e; cases e
  · exact h e.symm
theorem grownBy_setRow (a : World) (g : Nat) (cs : Array Value) : a.grownBy (a.setRow g cs) (some g) :=
  ⟨rfl, rfl, rfl, by simp [World.setRow], fun n hn hne => setRow_other a g n cs (fun e => hne (by rw [e]))⟩
set_option maxRecDepth 100000 in
set_option maxHeartbeats 4000000 in
theorem runAll_any (v : List Int) (l : List Actn) (vl : Value) (w : World) (hl : SL (RF Actn.enc) 4 w vl l) (hv : v.length = 32) (hvi : valsIn v) (hok : ∀ x ∈ l, x.ok = true) (hlen : l.length ≤ 1000000) :
    Calls Try.prog 44 #[.agg (vA v), vl] w fun e w' => ∃ v2 ts, e = .returned (.tuple #[.agg (vA (runAll v l).1), v2]) ∧ Up w w' ∧ OE 82 61 w.heap.size w' v2 ts ∧ ts.map TE.core = (runAll v l).2 := by
  obtain ⟨p3, c3, rfl, hll, hcl⟩ := hl.open
  have Hl := Lib.hid hl; have Hvi := Lib.hid hvi; have Hok := Lib.hid hok; have Hv := Lib.hid hv
  clear hl hvi hok hv
  go_enter Try.func44, Try.ntmps44
  go_wp2_with fail
  go_loopw [6, 14] (fun s6 s14 wr => ∃ (k : Nat) (ts : List TE), s14 = .int .i64 k ∧ k ≤ l.length ∧ Up w wr ∧ Row 57 wr w.heap.size (runAll v (l.take k)).1 ∧ Row 57 wr (w.heap.size + 1) zeros ∧ OE 82 61 (w.heap.size + 1 + 1) wr s6 ts ∧ ts.map TE.core = (runAll v (l.take k)).2) (fun _ s14 _ => l.length - (intOf s14).toNat)
  case atStart => exact ⟨0, [], rfl, Nat.zero_le _, (.of (by repeat (first | (with_reducible exact Ext.refl _) | (with_reducible refine Ext.up ?_ _) | (with_reducible refine Ext.alloc ?_ _) | (with_reducible refine Ext.drew ?_) | (with_reducible refine Ext.setRow ?_ (by first | exact LeS.le | exact LeS.add _ | (simp; done) | (simp; omega)) _) | (with_reducible refine Ext.setCell ?_ (by first | exact LeS.le | exact LeS.add _ | (simp; done) | (simp; omega)) _)))), Row.of_eq (heap_alloc2_old _ _ _) rfl, Row.of_eq (heap_alloc2_new _ _ _) vA_zeros.symm, ⟨Own.nil _ _ _ _ _, by simp⟩, rfl⟩
  case round =>
    obtain ⟨k, ts, rfl, hk, ⟨z, rfl⟩, r0, r1, hoe, hts⟩ := hrel
    have htl : ts.length ≤ 1000000 := by rw [← List.length_map (f := TE.core), hts, runAll_len, List.length_take]; omega
    have Hoe := Lib.hid hoe; have Hts := Lib.hid hts
    clear hoe hts
    by_cases hlt : k < l.length
    · obtain ⟨x, hxk⟩ := getElem?_some_of_lt hlt
      obtain ⟨g, off, hp, hb, _⟩ := hcl k x hxk
      obtain ⟨c0, c1, c2, c3⟩ := acell hcl hp hxk
      subst hp
      have hxo := Hok.out x (List.mem_of_getElem? hxk)
      have hVi : valsIn (runAll v (l.take k)).1 := runAll_in Hvi.out fun y hy => Hok.out y (List.mem_of_mem_take hy)
      have hVl : (runAll v (l.take k)).1.length = 32 := runStep_len Hv.out
      have Hsn := Lib.hid (runAll_snoc v hxk)
      generalize hR : runAll v (l.take k) = R at *
      have kr := fun w => run_any x R.1 w hVl hVi hxo
      have hei := Lib.hid (fun e he => entsOk_mem (runV_ok hVi hxo) (x := e) he)
      have hVl' := Lib.hid hVl
      have hwl := entsOk_len (runV_ok hVi hxo)
      clear hcl hxk hVi hxo hR hVl
      generalize hE : runV R.1 x = E at *
      have HE := Lib.hid hE; clear hE
      have hL0 := r0.lts
      have hL1 := r1.lts
      have R0 := Lib.hid r0; have R1 := Lib.hid r1
      clear r0 r1
      go_wp2_with (first | (refine wpList_load_row rfl _ _ rfl _ rfl _ _ _ _ (R0.out.up (by repeat (first | (with_reducible exact Ext.refl _) | (with_reducible refine Ext.up ?_ _) | (with_reducible refine Ext.alloc ?_ _) | (with_reducible refine Ext.drew ?_) | (with_reducible refine Ext.setRow ?_ (by first | exact LeS.le | exact LeS.add _ | (simp; done) | (simp; omega)) _) | (with_reducible refine Ext.setCell ?_ (by first | exact LeS.le | exact LeS.add _ | (simp; done) | (simp; omega)) _)))).eq Try.underlying57 rfl (by rw [vA_size, hVl'.out]; exact Try.sVals) ?_) | ((go_at_call 76; refine (kr _).mono ?_; rintro e w' ⟨vr, vw, rfl, ⟨z4, rfl⟩, q1, q2, ap⟩); obtain ⟨p1, cc1, rfl, _, _⟩ := (q1.sl Ent.enc_length).openc; obtain ⟨p2, cc2, rfl, _, hw2⟩ := (q2.sl Ent.enc_length).open; have Q1 := Lib.hid q1; have Q2 := Lib.hid q2; have HW2 := Lib.hid hw2; clear q1 q2 ap hw2))
      have hsz : w.heap.size + 1 < z.val.heap.size := hL1.lt
      have hsz4 : z.val.heap.size < z4.val.heap.size := by have := z4.ext.size; simp at this; omega
      have r05 := R0.out.up (show Ext z.val (z4.val.alloc (.cells #[.bool E.d, .slice p1 E.r.length cc1, .slice p2 E.w.length cc2] 82)) from (by repeat (first | (with_reducible exact Ext.refl _) | (with_reducible refine Ext.up ?_ _) | (with_reducible refine Ext.alloc ?_ _) | (with_reducible refine Ext.drew ?_) | (with_reducible refine Ext.setRow ?_ (by first | exact LeS.le | exact LeS.add _ | (simp; done) | (simp; omega)) _) | (with_reducible refine Ext.setCell ?_ (by first | exact LeS.le | exact LeS.add _ | (simp; done) | (simp; omega)) _))))
      have r15 := R1.out.up (show Ext z.val (z4.val.alloc (.cells #[.bool E.d, .slice p1 E.r.length cc1, .slice p2 E.w.length cc2] 82)) from (by repeat (first | (with_reducible exact Ext.refl _) | (with_reducible refine Ext.up ?_ _) | (with_reducible refine Ext.alloc ?_ _) | (with_reducible refine Ext.drew ?_) | (with_reducible refine Ext.setRow ?_ (by first | exact LeS.le | exact LeS.add _ | (simp; done) | (simp; omega)) _) | (with_reducible refine Ext.setCell ?_ (by first | exact LeS.le | exact LeS.add _ | (simp; done) | (simp; omega)) _))))
      have oe5 := Hoe.out.up (show Ext z.val (z4.val.alloc (.cells #[.bool E.d, .slice p1 E.r.length cc1, .slice p2 E.w.length cc2] 82)) from (by repeat (first | (with_reducible exact Ext.refl _) | (with_reducible refine Ext.up ?_ _) | (with_reducible refine Ext.alloc ?_ _) | (with_reducible refine Ext.drew ?_) | (with_reducible refine Ext.setRow ?_ (by first | exact LeS.le | exact LeS.add _ | (simp; done) | (simp; omega)) _) | (with_reducible refine Ext.setCell ?_ (by first | exact LeS.le | exact LeS.add _ | (simp; done) | (simp; omega)) _))))
      have q15 := Q1.out.up (show Ext z4.val (z4.val.alloc (.cells #[.bool E.d, .slice p1 E.r.length cc1, .slice p2 E.w.length cc2] 82)) from (by repeat (first | (with_reducible exact Ext.refl _) | (with_reducible refine Ext.up ?_ _) | (with_reducible refine Ext.alloc ?_ _) | (with_reducible refine Ext.drew ?_) | (with_reducible refine Ext.setRow ?_ (by first | exact LeS.le | exact LeS.add _ | (simp; done) | (simp; omega)) _) | (with_reducible refine Ext.setCell ?_ (by first | exact LeS.le | exact LeS.add _ | (simp; done) | (simp; omega)) _))))
      have q25 := Q2.out.up (show Ext z4.val (z4.val.alloc (.cells #[.bool E.d, .slice p1 E.r.length cc1, .slice p2 E.w.length cc2] 82)) from (by repeat (first | (with_reducible exact Ext.refl _) | (with_reducible refine Ext.up ?_ _) | (with_reducible refine Ext.alloc ?_ _) | (with_reducible refine Ext.drew ?_) | (with_reducible refine Ext.setRow ?_ (by first | exact LeS.le | exact LeS.add _ | (simp; done) | (simp; omega)) _) | (with_reducible refine Ext.setCell ?_ (by first | exact LeS.le | exact LeS.add _ | (simp; done) | (simp; omega)) _))))
      have hE5 : Ext w (z4.val.alloc (.cells #[.bool E.d, .slice p1 E.r.length cc1, .slice p2 E.w.length cc2] 82)) := (by repeat (first | (with_reducible exact Ext.refl _) | (with_reducible refine Ext.up ?_ _) | (with_reducible refine Ext.alloc ?_ _) | (with_reducible refine Ext.drew ?_) | (with_reducible refine Ext.setRow ?_ (by first | exact LeS.le | exact LeS.add _ | (simp; done) | (simp; omega)) _) | (with_reducible refine Ext.setCell ?_ (by first | exact LeS.le | exact LeS.add _ | (simp; done) | (simp; omega)) _)))
      have e5 : (z4.val.alloc (.cells #[.bool E.d, .slice p1 E.r.length cc1, .slice p2 E.w.length cc2] 82)).heap[z4.val.heap.size]? = some (.cells #[.bool E.d, .slice p1 E.r.length cc1, .slice p2 E.w.length cc2] 82 (0, 0)) := heap_alloc_new _ _
      have hw5 : ∀ (k : Nat) (y : Ent), E.w[k]? = some y → ∃ b off, p2 = some ⟨b, off, none⟩ ∧ w.heap.size < b ∧ LtS b (z4.val.alloc (.cells #[.bool E.d, .slice p1 E.r.length cc1, .slice p2 E.w.length cc2] 82)) ∧ ∀ j u, y.enc[j]? = some u → (z4.val.alloc (.cells #[.bool E.d, .slice p1 E.r.length cc1, .slice p2 E.w.length cc2] 82)).cell? ⟨b, off + k * 2 + j, none⟩ = some u := by
        intro k y hy
        obtain ⟨b, off, rfl, hlb, hcc⟩ := HW2.out k y hy
        have := (World.ownsRow.lt Q2.out b rfl).1
        simp at this
        refine ⟨b, off, rfl, by omega, inferInstance, fun j u hu => (LtS.cell_alloc _ _ _).trans (hcc j u hu)⟩
      have A1 := Lib.hid (Apart.of_lt Hoe.out.1 Q1.out (by simp)).symm
      have A2 := Lib.hid (Apart.of_lt Hoe.out.1 Q2.out (by simp)).symm
      have hlo : w.heap.size + 1 + 1 ≤ (z.val.alloc (.cells #[.int .i64 x.kind, .int .i64 x.src, .int .i64 x.dst, .int .i64 x.amt] 85)).heap.size := by simp; omega
      have hlt5 : z4.val.heap.size < (z4.val.alloc (.cells #[.bool E.d, .slice p1 E.r.length cc1, .slice p2 E.w.length cc2] 82)).heap.size := by simp
      generalize z4.val.alloc (.cells #[.bool E.d, .slice p1 E.r.length cc1, .slice p2 E.w.length cc2] 82) = W5 at *
      generalize z4.val.heap.size = G5 at *
      have HW5 := Lib.hid hw5; have R05 := Lib.hid r05; have R15 := Lib.hid r15; have OE5 := Lib.hid oe5; have Q15 := Lib.hid (q15.lo hlo); have Q25 := Lib.hid (q25.lo hlo); have HE5 := Lib.hid hE5; have E5 := Lib.hid e5
      have hL5 : LtS w.heap.size W5 := ⟨by omega⟩
      have hL51 : LtS (w.heap.size + 1) W5 := ⟨by omega⟩
      have hL5G : LtS G5 W5 := ⟨hlt5⟩
      have hN5 : NeS G5 w.heap.size := ⟨by omega⟩
      have hNw : NeS (w.heap.size + 1) w.heap.size := ⟨by omega⟩
      clear hw5 r05 r15 oe5 q15 q25 hE5 e5 HW2 Q1 Q2 hlo hlt5 R0 R1 kr
      go_loopw [24] (fun s24 wr => ∃ (j : Nat), s24 = .int .i64 j ∧ j ≤ E.w.length ∧ (∃ z5 : ExtR w.heap.size W5, wr = z5.val) ∧ Row 57 wr w.heap.size (vsets R.1 (E.w.take j))) (fun s24 _ => E.w.length - (intOf s24).toNat)
      case atStart => exact ⟨0, rfl, Nat.zero_le _, ⟨⟨W5, grownBy_refl _ _⟩, rfl⟩, R05.out⟩
      case round =>
        obtain ⟨j, rfl, hj, ⟨z5, rfl⟩, rj⟩ := hrel
        by_cases hjl : j < E.w.length
        · obtain ⟨y, hyk⟩ := getElem?_some_of_lt hjl
          obtain ⟨b, offb, rfl, hbw, hlb, hcc⟩ := HW5.out j y hyk
          have hNb : NeS b w.heap.size := ⟨by omega⟩
          have y0 : W5.cell? ⟨b, offb + j * 2, none⟩ = some (.int .i64 y.k) := hcc 0 _ rfl
          have y1 : W5.cell? ⟨b, offb + j * 2 + 1, none⟩ = some (.int .i64 y.v) := hcc 1 _ rfl
          obtain ⟨k0, k1, _, _⟩ := hei.out y (List.mem_of_getElem? hyk)
          have k2 : y.k < 32 := by omega
          obtain ⟨u, hu⟩ := getElem?_some_of_lt (l := vsets R.1 (E.w.take j)) (k := y.k.toNat) (by rw [vsets_length, hVl'.out]; omega)
          have d0 := rj.cell hu
          have f0 := rj.frozen y.k.toNat
          have hLj := rj.lts
          have RJ := Lib.hid rj
          have Hs := Lib.hid (vsets_snoc R.1 hyk)
          clear hcc hyk hu rj
          go_wp2_with fail
          go_roundw
          case rel => exact ⟨j + 1, by go_num, by omega, ExtR.of (grownBy_trans (GB.alloc z5.grown _) (grownBy_set _ _ _)), by rw [Hs.out]; exact (RJ.out.alloc _).set _ _⟩
          case measure => simp [intOf]; omega
        · obtain rfl : j = E.w.length := by omega
          rw [List.take_length] at rj
          have RJ := Lib.hid rj
          have r15 : Row 57 z5.val (w.heap.size + 1) zeros := (z5.block hL51.lt hNw.ne).trans R15.out
          have OEZ := Lib.hid (OE.keepR OE5.out z5.grown (by omega))
          have Q1Z := Lib.hid (Own.kept Q15.out z5.grown (Q15.out.ne_rb (by omega)))
          have Q2Z := Lib.hid (Own.kept Q25.out z5.grown (Q25.out.ne_rb (by omega)))
          have eG := (z5.block hL5G.lt hN5.ne).trans E5.out
          have g50 : z5.val.cell? ⟨G5, 0, none⟩ = some (.bool E.d) := cell_of_row _ _ 0 _ _ _ eG
          have g51 : z5.val.cell? ⟨G5, 1, none⟩ = some (.slice p1 E.r.length cc1) := cell_of_row _ _ 1 _ _ _ eG
          have g52 : z5.val.cell? ⟨G5, 2, none⟩ = some (.slice p2 E.w.length cc2) := cell_of_row _ _ 2 _ _ _ eG
          have HEZ : Hid (Ext w z5.val) := Lib.hid (HE5.out.upR (Nat.le_refl _) z5)
          have hszz : W5.heap.size ≤ z5.val.heap.size := z5.grown.size
          have R1Z := Lib.hid r15
          have hL5l := hL5.lt
          have hL51l := hL51.lt
          clear rj r15 eG
          go_wp2_with (at_builtin; refine wpList_pushG fEff rfl (.tmp 34) (.tmp 36) rfl TE.enc TE.enc_length w (lo := w.heap.size + 1 + 1) [⟨E.d, .slice p1 E.r.length cc1, .slice p2 E.w.length cc2, E.r, E.w⟩] ts rfl OEZ.out.1 HEZ.out (by omega) (by omega) rfl rfl (by go_simp) rfl (oneTE _ (by intro y hy; simp at hy; subst hy; exact ⟨⟨_, _, _, rfl⟩, ⟨_, _, _, rfl⟩⟩)) (by simp; omega) (by simp; omega) ?_; intro v7 z7 o7 g7 b7)
          have S0 := Lib.hid (rowKept OEZ.out.1 (by omega) RJ.out.eq g7)
          have S1 := Lib.hid (rowKept OEZ.out.1 (by omega) R1Z.out.eq g7)
          have OE7 := Lib.hid (OE.snoc (OEZ.out.up (by repeat (first | (with_reducible exact Ext.refl _) | (with_reducible refine Ext.up ?_ _) | (with_reducible refine Ext.alloc ?_ _) | (with_reducible refine Ext.drew ?_) | (with_reducible refine Ext.setRow ?_ (by first | exact LeS.le | exact LeS.add _ | (simp; done) | (simp; omega)) _) | (with_reducible refine Ext.setCell ?_ (by first | exact LeS.le | exact LeS.add _ | (simp; done) | (simp; omega)) _)))) g7 b7 o7 (Q1Z.out.up (by repeat (first | (with_reducible exact Ext.refl _) | (with_reducible refine Ext.up ?_ _) | (with_reducible refine Ext.alloc ?_ _) | (with_reducible refine Ext.drew ?_) | (with_reducible refine Ext.setRow ?_ (by first | exact LeS.le | exact LeS.add _ | (simp; done) | (simp; omega)) _) | (with_reducible refine Ext.setCell ?_ (by first | exact LeS.le | exact LeS.add _ | (simp; done) | (simp; omega)) _)))) A1.out (Q2Z.out.up (by repeat (first | (with_reducible exact Ext.refl _) | (with_reducible refine Ext.up ?_ _) | (with_reducible refine Ext.alloc ?_ _) | (with_reducible refine Ext.drew ?_) | (with_reducible refine Ext.setRow ?_ (by first | exact LeS.le | exact LeS.add _ | (simp; done) | (simp; omega)) _) | (with_reducible refine Ext.setCell ?_ (by first | exact LeS.le | exact LeS.add _ | (simp; done) | (simp; omega)) _)))) A2.out)
          clear o7 g7 b7
          go_wp2_with fail
          go_roundw
          case rel =>
            refine ⟨k + 1, _, by go_num, by omega, ⟨z7, rfl⟩, ?_, S1.out, OE7.out, ?_⟩
            · rw [Hsn.out]
              show Row 57 z7.val w.heap.size (vsets R.1 (runV R.1 x).w)
              rw [HE.out]
              exact S0.out
            · rw [Hsn.out]
              show _ = R.2 ++ [runV R.1 x]
              rw [HE.out, List.map_append, Hts.out]; rfl
          case measure => simp [intOf]; omega
    · obtain rfl : k = l.length := by omega
      rw [List.take_length] at r0 Hts
      have hRl : (runAll v l).1.length = 32 := runStep_len Hv.out
      have R0 := Lib.hid r0; have R1 := Lib.hid r1
      clear hcl r0 r1
      go_wp2_with (first | (refine wpList_load_row rfl _ _ rfl _ rfl _ _ _ _ R0.out.eq Try.underlying57 rfl (by rw [vA_size, hRl]; exact Try.sVals) ?_) | (refine wpList_store_row rfl _ _ _ rfl _ _ rfl rfl _ _ R1.out.eq (by rw [vA_size, hRl]; exact Try.sVals) (by rw [vA_size, vA_size, hRl, zeros_length]) (vA_one _) ?_))
      refine bodyPost_ret (results_cell_row2 (p := 4) (q := 5) (by kernel_rfl) _ _ (w.heap.size + 1) _ (vA (runAll v l).1) (0, 0) _ rfl rfl (R1.out.setRow _).eq Try.underlying57 rfl (by rw [vA_size, hRl]; exact Try.sVals)) rfl ⟨_, ts, rfl, (.of (by repeat (first | exact Ext.refl _ | refine Ext.up ?_ _ | refine Ext.alloc ?_ _ | refine Ext.drew ?_ | refine Ext.setRow ?_ (by first | (dsimp only; omega) | exact LeS.le | exact LeS.add _ | (simp; done) | (simp; omega)) _ | refine Ext.setCell ?_ (by first | (dsimp only; omega) | exact LeS.le | exact LeS.add _ | (simp; done) | (simp; omega)) _))), (OE.keepR Hoe.out (grownBy_setRow _ _ _) (by omega)).lo (by omega), Hts.out⟩
end Go.Proofs.Yteiemjebdhmnaaa
namespace Go.Proofs.Yteiemjebdhmnaaa
open Go Go.RowKit Go.Proofs Go.Lib Go.Sort

theorem take_put {α : Type} [Inhabited α] (enc : α → Value) (cur : Array Value) (d : Array α) (h : d.size ≤ cur.size) : (putCells enc 0 d cur).toList.take d.size = d.toList.map enc := by
  apply List.ext_getElem?
  intro j
  by_cases hj : j < d.size
  · rw [List.getElem?_take_of_lt hj, Array.getElem?_toList]
    simp [putCells, hj, show j < cur.size by omega]
  · rw [List.getElem?_take_eq_none (by omega), List.getElem?_eq_none (by simp; omega)]
/-- A row of the call's own with other cells. -/
theorem ownsRow_put {α : Type} [Inhabited α] (enc : α → Value) {w : World} {base e sz n : Nat} {g m cap : Nat} {xs : List Value} (os : Array Obj) (d : Array α) (h : w.ownsRow base e sz (.slice (some ⟨g, 0, none⟩) m cap) m xs) (hd : d.size = m * sz) :
    (grow (putRow enc (Sort.ahead w n) g 0 d) os).ownsRow base e sz (.slice (some ⟨g, 0, none⟩) m cap) m (d.toList.map enc) := by
  rcases h.2 with ⟨h0, _⟩ | ⟨g', cap', cur, hv, hbase, hb, h1, h2, h3, _⟩
  · cases h0
  · cases hv
    have hg : g < w.heap.size := (Array.getElem?_eq_some_iff.1 hb).1
    refine ⟨by simp [hd], .inr ⟨g, cap, putCells enc 0 d cur, rfl, hbase, ?_, h1, h2, by simp [putCells, h3], ?_⟩⟩
    · rw [heap_grow_old _ _ (by simpa using hg)]
      simp [putRow, mapBlock, Sort.ahead, Array.getElem?_modify, hb, onCells]
    · rw [← hd]
      refine take_put enc cur d ?_
      rw [h3, hd]; exact Nat.mul_le_mul_right _ h1
theorem grownBy_put {α : Type} [Inhabited α] (enc : α → Value) {w : World} {g n : Nat} {os : Array Obj} (d : Array α) : w.grownBy (grow (putRow enc (Sort.ahead w n) g 0 d) os) (some g) := by
  refine ⟨rfl, rfl, rfl, by simp, fun k hk hne => ?_⟩
  rw [heap_grow_old _ _ (by simpa using hk)]
  have : g ≠ k := fun e => hne (by rw [e])
  simp [putRow, mapBlock, Sort.ahead, Array.getElem?_modify, this]
theorem holds_own {e lo : Nat} {w : World} {g cap : Nat} {l : List Int} (h : Own encI e 1 lo w (.slice (some ⟨g, 0, none⟩) l.length cap) l) : Holds (Value.int .i64) w g 0 l.toArray := by
  intro j hj
  have hj' : j < l.length := by simpa using hj
  have h' : w.ownsRow lo e 1 (.slice (some ⟨g, 0, none⟩) l.length cap) l.length (l.flatMap encI) := h
  have hc := h'.cellAt j (show j < l.length * 1 by omega)
  refine ⟨?_, h'.frozenAt (0 + j)⟩
  rw [Nat.zero_add, hc, show l.flatMap encI = l.map (Value.int .i64) from by
    clear hj hj' hc h h'
    induction l with
    | nil => rfl
    | cons x l ih => simpa [encI, List.flatMap_cons] using ih]
  simp [hj']
theorem flatI (l : List Int) : l.flatMap encI = l.map (Value.int .i64) := by
  induction l with
  | nil => rfl
  | cons x l ih => simpa [encI, List.flatMap_cons] using ih
set_option maxHeartbeats 1600000 in
set_option maxRecDepth 1000000 in
theorem reverse_arr (blk off cap : Nat) (d : Array Int) (w : World) (hH : Holds (Value.int .i64) w blk off d) (hsz : d.size ≤ 9223372036854775807) :
    Calls Try.prog 95 #[.slice (some ⟨blk, off, none⟩) d.size cap] w fun e w' => e = .returned (.tuple #[]) ∧ ∃ n, w' = putRow (Value.int .i64) (Sort.ahead w n) blk off d.reverse := by
  have mixed : (Try.prog).follows .mixedOrders = true := by kernel_rfl
  go_enter Try.func95, Try.ntmps95
  go_wp2
  go_loopg [2, 3] d.size (fun k s2 s3 wr => ∃ (i jn : Nat) (jz : Int) (dk : Array Int) (n : Nat), s2 = .int .i64 i ∧ s3 = .int .i64 jz ∧ ((i : Int) < jz → jz = jn ∧ jn < d.size) ∧ (¬ (i : Int) < jz → ¬ i < jn) ∧ jn - i ≤ k ∧
    dk.size = d.size ∧ wr = putRow (Value.int .i64) (Sort.ahead w n) blk off dk ∧ reverseLoop i jn dk = reverseLoop 0 (d.size - 1) d)
  case atStart => exact ⟨0, d.size - 1, (d.size : Int) - 1, d, 0, rfl, rfl, fun h => ⟨by omega, by omega⟩, fun h => by omega, by omega, rfl, (putRow_self (Value.int .i64) w blk off d hH).symm, rfl⟩
  case round =>
    obtain ⟨i, jn, jz, dk, n, rfl, rfl, h1, h2, hk, hds, hwr, heq⟩ := hrel
    by_cases hlt : (i : Int) < jz
    · obtain ⟨rfl, hjn⟩ := h1 hlt
      have hij : i < jn := by omega
      have hHk : Holds (Value.int .i64) wr blk off dk := by rw [hwr]; exact holds_putRow (Value.int .i64) _ blk off d dk (holds_ahead (Value.int .i64) w n blk off d hH) hds
      have hid : i < d.size := by omega
      obtain ⟨ci, fi⟩ := hHk i (by omega)
      obtain ⟨cj, fj⟩ := hHk jn (by omega)
      have A := Lib.hid hwr
      clear hwr hHk hH h1 h2
      go_wp2_with fail
      go_region_o
      go_wp2
      go_roundg (jn - 1 - (i + 1))
      case measure => omega
      case rel =>
        rw [reverseLoop, if_pos hij] at heq
        exact ⟨i + 1, jn - 1, (jn : Int) - 1, swp dk i jn, n + 1, by simp, rfl, fun h => ⟨by omega, by omega⟩, fun h => by omega, Nat.le_refl _, by rw [size_swp]; exact hds,
          swap_world (Value.int .i64) (by omega) (by omega) A.out (by first | rfl | simp [getElem!_pos, show jn < dk.size by omega]) (by first | rfl | simp [getElem!_pos, show i < dk.size by omega]), heq⟩
    · have hnot := h2 hlt
      go_wp2
      go_end0
      refine ⟨rfl, n, ?_⟩
      rw [reverseLoop, if_neg hnot] at heq
      rw [← Lib.reverseLoop_reverse, ← heq]
/-- A slice of the call's own is turned round. -/
theorem reverse_own {e lo : Nat} (l : List Int) (g cap : Nat) (w : World) (h : Own encI e 1 lo w (.slice (some ⟨g, 0, none⟩) l.length cap) l) :
    Calls Try.prog 95 #[.slice (some ⟨g, 0, none⟩) l.length cap] w fun e' w' => e' = .returned (.tuple #[]) ∧ w.grownBy w' (some g) ∧ Own encI e 1 lo w' (.slice (some ⟨g, 0, none⟩) l.length cap) l.reverse := by
  have hl : l.length ≤ 9223372036854775807 := by obtain ⟨_, _, _, h1, _⟩ := (h.sl encI_length).openc; exact h1
  have hc := reverse_arr g 0 cap l.toArray w (holds_own h) (by simpa using hl)
  refine hc.mono ?_
  rintro e' w' ⟨he, n, rfl⟩
  have h' : w.ownsRow lo e 1 (.slice (some ⟨g, 0, none⟩) l.length cap) l.length (l.flatMap encI) := h
  have h1 := ownsRow_put (Value.int .i64) (n := n) #[] l.toArray.reverse h' (by simp)
  have h2 := grownBy_put (Value.int .i64) (w := w) (g := g) (n := n) (os := #[]) l.toArray.reverse
  rw [grow_empty] at h1 h2
  refine ⟨he, h2, ?_⟩
  show World.ownsRow _ _ _ _ _ _ _
  rw [flatI, List.length_reverse]
  simpa using h1
set_option maxRecDepth 100000 in
set_option maxHeartbeats 1000000 in
theorem path_any (t : Tree) (v0 v1 v2 : Value) (n : Int) (w : World) (h : ST w v0 v1 v2 t) (ho : t.ok = true) (hn : hasN t n = true) :
    Calls Try.prog 64 #[.agg #[v0, v1, v2], .int .i64 n] w fun e w' => ∃ v', e = .returned v' ∧ Up w w' ∧ Own encI 3 1 w.heap.size w' v' (pathB t n) := by
  obtain ⟨p0, c0, rfl, _, _⟩ := h.base.openc
  obtain ⟨p1, c1, rfl, hl1, _⟩ := h.bs.openc
  obtain ⟨p2, c2, rfl, hlp, hcp⟩ := h.pr.open
  clear h
  have hp := Lib.hid (fun (i : Nat) (m : Int) (hm : t.pr[i]? = some m) => Tree.pr_lt ho hm)
  obtain ⟨hn0, hn1⟩ := inR_iff.1 (show inR n 0 ((t.bs.length : Int) - 1) = true from hn)
  have hl14 : t.bs.length ≤ 14 := (Tree.head_parts (Tree.ok_parts ho).1).2.1.2
  have hpl : t.pr.length = t.bs.length := (Tree.head_parts (Tree.ok_parts ho).1).2.2.1
  have HP := Lib.hid hcp
  have Hpl := Lib.hid hpl
  clear hcp hn ho hpl
  go_enter Try.func64, Try.ntmps64
  go_wp2_with fail
  go_loopw [1, 5] (fun s1 s5 wr => ∃ (m : Int) (f : Nat) (out : List Int), s1 = .int .i64 m ∧ -1 ≤ m ∧ m < t.bs.length ∧ m < f ∧ out ++ climb t.pr f m = climb t.pr t.bs.length n ∧ f + out.length = t.bs.length ∧ Up (w.alloc (.cells #[.slice p0 t.base.length c0, .slice p1 t.bs.length c1, .slice p2 t.pr.length c2] 27)) wr ∧ Own encI 3 1 (w.heap.size + 1) wr s5 out) (fun s1 _ _ => ((RowKit.intOf s1) + 1).toNat)
  case atStart => exact ⟨n, t.bs.length, [], rfl, by omega, by omega, by omega, by simp, by simp, (.of (by repeat (first | (with_reducible exact Ext.refl _) | (with_reducible refine Ext.up ?_ _) | (with_reducible refine Ext.alloc ?_ _) | (with_reducible refine Ext.drew ?_) | (with_reducible refine Ext.setRow ?_ (by first | exact LeS.le | exact LeS.add _ | (simp; done) | (simp; omega)) _) | (with_reducible refine Ext.setCell ?_ (by first | exact LeS.le | exact LeS.add _ | (simp; done) | (simp; omega)) _)))), Own.nil _ _ _ _ _⟩
  case round =>
    obtain ⟨m, f, out, rfl, hm0, hm1, hmf, hcl, hfo, ⟨z, rfl⟩, hown⟩ := hrel
    by_cases hneg : m < 0
    · have hout : out = climb t.pr t.bs.length n := by rw [← hcl, climb_neg t.pr f hneg, List.append_nil]
      subst hout
      have hge : ¬ 0 ≤ m := by omega
      have hne : climb t.pr t.bs.length n ≠ [] := by
        obtain ⟨k, hk⟩ : ∃ k, t.bs.length = k + 1 := ⟨t.bs.length - 1, by omega⟩
        have h2 : ¬ n < 0 := by omega
        rw [hk]; simp [climb, h2]
      obtain ⟨g, c, rfl⟩ := Own.ne hown hne
      have HO := Lib.hid hown
      clear hcl hown hne
      go_wp2_with fail
      refine (reverse_own (climb t.pr t.bs.length n) g c _ HO.out).mono ?_; rintro e w' ⟨rfl, hg, ho2⟩
      have E : Ext w w' := Ext.grown (b := z.val) (by repeat (first | (with_reducible exact Ext.refl _) | (with_reducible refine Ext.up ?_ _) | (with_reducible refine Ext.alloc ?_ _) | (with_reducible refine Ext.drew ?_) | (with_reducible refine Ext.setRow ?_ (by first | exact LeS.le | exact LeS.add _ | (simp; done) | (simp; omega)) _) | (with_reducible refine Ext.setCell ?_ (by first | exact LeS.le | exact LeS.add _ | (simp; done) | (simp; omega)) _))) hg (fun k hk => by cases hk; have := (World.ownsRow.lt HO.out g rfl).1; omega)
      have O2 := Lib.hid ho2
      clear hg ho2
      go_wp2_with fail
      go_ret
      refine ⟨_, rfl, .of E, ?_⟩
      have h3 := Own.lo O2.out (Nat.le_succ _)
      exact h3
    · obtain ⟨m', hm'⟩ := getElem?_some_of_lt (l := t.pr) (k := m.toNat) (by have := Hpl.out; omega)
      obtain ⟨b2, off2, rfl, hb2, hc2⟩ := HP.out m.toNat m' hm'
      have e0 : w.cell? ⟨b2, off2 + m.toNat, none⟩ = some (.int .i64 m') := by have := hc2 0 _ rfl; simpa using this
      obtain ⟨hm2, hm3⟩ := hp.out m.toNat m' hm'
      have m0 : 0 ≤ m := by omega
      have mp : m < (t.pr.length : Int) := by have := Hpl.out; omega
      obtain ⟨f', rfl⟩ : ∃ f', f = f' + 1 := ⟨f - 1, by omega⟩
      have hcl2 : (out ++ [m]) ++ climb t.pr f' m' = climb t.pr t.bs.length n := by rw [← hcl, climb_step m0 hm']; simp
      have Hcl := Lib.hid hcl2
      have HO := Lib.hid hown
      have hol : out.length ≤ 14 := by omega
      clear hown hcl hcl2 hm' hc2
      go_wp2_with (at_builtin; refine wpList_pushG fI rfl (.tmp 13) (.tmp 15) rfl encI encI_length (w.alloc (.cells #[.slice p0 t.base.length c0, .slice p1 t.bs.length c1, .slice (some ⟨b2, off2, none⟩) t.pr.length c2] 27)) [m] out rfl (HO.out.up (by repeat (first | (with_reducible exact Ext.refl _) | (with_reducible refine Ext.up ?_ _) | (with_reducible refine Ext.alloc ?_ _) | (with_reducible refine Ext.drew ?_) | (with_reducible refine Ext.setRow ?_ (by first | exact LeS.le | exact LeS.add _ | (simp; done) | (simp; omega)) _) | (with_reducible refine Ext.setCell ?_ (by first | exact LeS.le | exact LeS.add _ | (simp; done) | (simp; omega)) _)))) (by repeat (first | (with_reducible exact Ext.refl _) | (with_reducible refine Ext.up ?_ _) | (with_reducible refine Ext.alloc ?_ _) | (with_reducible refine Ext.drew ?_) | (with_reducible refine Ext.setRow ?_ (by first | exact LeS.le | exact LeS.add _ | (simp; done) | (simp; omega)) _) | (with_reducible refine Ext.setCell ?_ (by first | exact LeS.le | exact LeS.add _ | (simp; done) | (simp; omega)) _))) (by simp) (by have h1 := z.ext.size; simp at h1; omega) rfl (by rfl) (by go_simp) rfl (oneIs _) (by simp; omega) (by simp; omega) ?_; intro v6 z6 o6 _ b6)
      have O6 := Lib.hid o6; clear o6
      go_wp2_with fail
      go_roundw
      case rel => exact ⟨m', f', out ++ [m], rfl, hm2, by omega, by omega, Hcl.out, by rw [List.length_append]; simp; omega, ⟨z6, rfl⟩, O6.out⟩
      case measure => simp [RowKit.intOf]; omega
theorem getD_of' {l : List Int} {k : Nat} {x d : Int} (h : l[k]? = some x) : l.getD k d = x := by simp [List.getD, h]
theorem pathB_mem {t : Tree} (h : t.ok = true) {n : Int} (hn : hasN t n = true) : ∀ a ∈ pathB t n, hasN t a = true := by
  have key : ∀ (f : Nat) (m : Int), m < t.bs.length → ∀ a ∈ climb t.pr f m, 0 ≤ a ∧ a < t.bs.length := by
    intro f
    induction f with
    | zero => intro m _ a ha; simp [climb] at ha
    | succ f ih =>
      intro m hm a ha
      unfold climb at ha
      split at ha
      · simp at ha
      · rename_i hneg
        rcases List.mem_cons.1 ha with rfl | ha
        · omega
        · refine ih _ ?_ a ha
          cases hq : t.pr[m.toNat]? with
          | none => simp [List.getD, hq]; omega
          | some q => have := Tree.pr_lt h hq; rw [getD_of' hq]; omega
  intro a ha
  have := key _ _ (by have := (inR_iff.1 hn).2; omega) a (List.mem_reverse.1 ha)
  exact inR_iff.2 (by omega)
end Go.Proofs.Yteiemjebdhmnaaa
