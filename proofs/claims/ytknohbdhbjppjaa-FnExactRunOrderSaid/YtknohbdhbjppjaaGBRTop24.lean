/- Walks: runs without actions; first blocks are right. Walks: actions one after the other, on the program's side. Plain ground: append of a whole slice in a region that draws its order; parts of slices of the call's own. -/
import Derived.Test.YtknohbdhbjppjaaGBRTop18
import Derived.Test.YtknohbdhbjppjaaGBRTop20
import Derived.Test.YtknohbdhbjppjaaGBRTop23
import Derived.Test.YtknohbdhbjppjaaGBRTop15
import Derived.Test.YtknohbdhbjppjaaGBRTop16
set_option linter.unusedSimpArgs false
set_option linter.unusedVariables false
namespace Go.Proofs.Ytknohbdhbjppjaa
open Go Go.RowKit Go.Proofs

theorem results_cell_row2 {P : Program} {fn : Func} {p q : Tmp} {ty : TypeId} (h : fn.results = #[.cell p ty, .tmp q]) (tmps : Array Value) (w : World) (g : Nat) (t : TypeId) (cs : Array Value) (fr : Nat × Nat) (d : TypeDesc) {v : Value}
    (hp : tmps.getD p undef = .pointer (some ⟨g, 0, none⟩)) (hq : tmps.getD q undef = v) (hg : w.heap[g]? = some (.cells cs t fr))
    (hu : P.underlying ty = some d) (hd : (match d with | .struct _ | .array _ _ => true | _ => false) = true) (hi : (P.info? ty).map (·.size) = some cs.size) :
    (results fn tmps).run P w = .ok (.tuple #[.agg cs, v]) w := by
  have hp' : tmps[p]?.getD undef = .pointer (some ⟨g, 0, none⟩) := by simpa using hp
  have hq' : tmps[q]?.getD undef = v := by simpa using hq
  simp [results, h, hp', hq', asAddr, run_loadVar_row w g t ty cs fr d hg hu hd hi]
set_option maxRecDepth 100000 in
set_option maxHeartbeats 2000000 in
theorem runAll_nil (v : List Int) (hv : v.length = 32) (p : Option Addr) (c : Nat) (w : World) :
    Calls Try.prog 98 #[.agg (vA v), .slice p 0 c] w fun e w' => e = .returned (.tuple #[.agg (vA v), .slice none 0 0]) ∧ Up w w' := by
  go_enter Try.func98, Try.ntmps98
  go_wp2_with fail
  go_loopw [6, 14] (fun s6 s14 wr => s14 = .int .i64 0 ∧ s6 = .slice none 0 0 ∧ Up w wr ∧ Row 121 wr w.heap.size v ∧ Row 121 wr (w.heap.size + 1) zeros) (fun _ _ _ => 0)
  case atStart => exact ⟨rfl, rfl, (.of (by repeat (first | (with_reducible exact Ext.refl _) | (with_reducible refine Ext.up ?_ _) | (with_reducible refine Ext.alloc ?_ _) | (with_reducible refine Ext.drew ?_) | (with_reducible refine Ext.setRow ?_ (by first | exact LeS.le | exact LeS.add _ | (simp; done) | (simp; omega)) _) | (with_reducible refine Ext.setCell ?_ (by first | exact LeS.le | exact LeS.add _ | (simp; done) | (simp; omega)) _)))), Row.of_eq (heap_alloc2_old _ _ _) rfl, Row.of_eq (heap_alloc2_new _ _ _) vA_zeros.symm⟩
  case round =>
    obtain ⟨rfl, rfl, ⟨z, rfl⟩, r0, r1⟩ := hrel
    have R0 := Lib.hid r0; have R1 := Lib.hid r1
    clear r0 r1
    go_wp2_with (first | (refine wpList_load_row rfl _ _ rfl _ rfl _ _ _ _ R0.out.eq Try.underlying121 rfl (by rw [vA_size, hv]; exact Try.sVals) ?_) | (refine wpList_store_row rfl _ _ _ rfl _ _ rfl rfl _ _ R1.out.eq (by rw [vA_size, hv]; exact Try.sVals) (by rw [vA_size, vA_size, hv, zeros_length]) (vA_one _) ?_))
    refine bodyPost_ret (results_cell_row2 (p := 4) (q := 5) (by kernel_rfl) _ _ (w.heap.size + 1) _ (vA v) (0, 0) _ rfl rfl (R1.out.setRow _).eq Try.underlying121 rfl (by rw [vA_size, hv]; exact Try.sVals)) rfl ⟨rfl, (.of (by repeat (first | exact Ext.refl _ | refine Ext.up ?_ _ | refine Ext.alloc ?_ _ | refine Ext.drew ?_ | refine Ext.setRow ?_ (by first | (dsimp only; omega) | exact LeS.le | exact LeS.add _ | (simp; done) | (simp; omega)) _ | refine Ext.setCell ?_ (by first | (dsimp only; omega) | exact LeS.le | exact LeS.add _ | (simp; done) | (simp; omega)) _)))⟩
set_option maxRecDepth 100000 in
set_option maxHeartbeats 2000000 in
theorem iRunSerial_nil (s : List Ent) (v : Value) (p : Option Addr) (c : Nat) (w : World) (h : SL (RF Ent.enc) 2 w v s) (hok : entsOk 1 s = true) :
    Calls Try.prog 115 #[v, .slice p 0 c] w fun e w' => ∃ v', e = .returned (.tuple #[v', .slice none 0 0]) ∧ Up w w' ∧ Own Ent.enc 97 2 w.heap.size w' v' s := by
  have H := Lib.hid h
  have kv := fun w h => iStoreValid_any s v w h
  simp only [hok] at kv
  have ka := fun w => iActionsValid_any [] (.slice p 0 c) w (SL.nil _ _ _ _ _)
  simp only [show actsOk [] = true from rfl] at ka
  have he := storeOf_valsOf hok
  have Hok := Lib.hid hok
  have tok : True := trivial
  clear h hok
  go_enter Try.func115, Try.ntmps115
  go_wp2_with (first | (go_at_call 74; refine (kv _ H.out).mono ?_; rintro e w' ⟨rfl, z1, rfl⟩) | (go_at_call 147; refine (ka _).mono ?_; rintro e w' ⟨rfl, z2, rfl⟩) | (go_at_call 99; refine (valuesOf_any 1 s _ _ (H.out.up (by repeat (first | (with_reducible exact Ext.refl _) | (with_reducible refine Ext.up ?_ _) | (with_reducible refine Ext.alloc ?_ _) | (with_reducible refine Ext.drew ?_) | (with_reducible refine Ext.setRow ?_ (by first | exact LeS.le | exact LeS.add _ | (simp; done) | (simp; omega)) _) | (with_reducible refine Ext.setCell ?_ (by first | exact LeS.le | exact LeS.add _ | (simp; done) | (simp; omega)) _)))) Hok.out).mono ?_; rintro e w' ⟨rfl, z3, rfl⟩) | (go_at_call 98; refine (runAll_nil (valsOf s) (valsOf_length s) p c _).mono ?_; rintro e w' ⟨rfl, z4, rfl⟩) | (have _t := tok; refine wpList_store_new rfl _ _ _ rfl rfl rfl rfl (by rw [valsOf_length]; exact Try.sVals) (by rw [valsOf_length]; rfl) ?_; intro z5 r5; clear _t tok; have R5 := Lib.hid r5; clear r5) | (refine wpList_load_row rfl _ _ rfl _ rfl _ _ _ _ R5.out.eq Try.underlying121 rfl (by rw [vA_size, valsOf_length]; exact Try.sVals) ?_) | (go_at_call 100; refine (store_any _ _ (valsOf_length s)).mono ?_; rintro e w' ⟨v', rfl, ⟨z6, rfl⟩, ho⟩; have HO := Lib.hid ho; clear ho))
  refine bodyPost_ret (v := .tuple #[v', .slice none 0 0]) (by simp [results, Try.results115, go_sem]) rfl ?_
  exact ⟨_, rfl, (.of (by repeat (first | (with_reducible exact Ext.refl _) | (with_reducible refine Ext.up ?_ _) | (with_reducible refine Ext.alloc ?_ _) | (with_reducible refine Ext.drew ?_) | (with_reducible refine Ext.setRow ?_ (by first | exact LeS.le | exact LeS.add _ | (simp; done) | (simp; omega)) _) | (with_reducible refine Ext.setCell ?_ (by first | exact LeS.le | exact LeS.add _ | (simp; done) | (simp; omega)) _)))), by have := HO.out; rw [he] at this; exact this.lo LeS.le⟩
set_option maxRecDepth 100000 in
set_option maxHeartbeats 2000000 in
theorem iBlockRight_first (s : List Ent) (v : Value) (p : Option Addr) (c : Nat) (w : World) (h : SL (RF Ent.enc) 2 w v s) (hok : entsOk 1 s = true) :
    Calls Try.prog 55 #[.agg #[.int .i64 (firstB s).bf, .int .i64 (firstB s).ht, .int .i64 (firstB s).vw, .slice p 0 c, .int .i64 (firstB s).rt, .int .i64 (firstB s).ef], v] w fun e w' => e = .returned (.bool true) ∧ Up w w' := by
  have H := Lib.hid h
  have kv := fun w h => iStoreValid_any s v w h
  simp only [hok] at kv
  have kb := fun w => iBlockValid_any (firstB s) [] (.slice p 0 c) w (SL.nil _ _ _ _ _)
  simp only [firstB_ok hok] at kb
  have kr := fun w h => iRunSerial_nil s v p c w h hok
  have kf := firstB_yes hok
  have Hok := Lib.hid hok
  clear h hok
  rw [kf] at kb ⊢
  clear kf
  go_enter Try.func55, Try.ntmps55
  go_wp2_with (first | (go_at_call 114; refine (kb _).mono ?_; rintro e w' ⟨rfl, z1, rfl⟩) | (go_at_call 74; refine (kv _ (H.out.up (by repeat (first | (with_reducible exact Ext.refl _) | (with_reducible refine Ext.up ?_ _) | (with_reducible refine Ext.alloc ?_ _) | (with_reducible refine Ext.drew ?_) | (with_reducible refine Ext.setRow ?_ (by first | exact LeS.le | exact LeS.add _ | (simp; done) | (simp; omega)) _) | (with_reducible refine Ext.setCell ?_ (by first | exact LeS.le | exact LeS.add _ | (simp; done) | (simp; omega)) _))))).mono ?_; rintro e w' ⟨rfl, z2, rfl⟩) | (go_at_call 115; refine (kr _ (H.out.up (by repeat (first | (with_reducible exact Ext.refl _) | (with_reducible refine Ext.up ?_ _) | (with_reducible refine Ext.alloc ?_ _) | (with_reducible refine Ext.drew ?_) | (with_reducible refine Ext.setRow ?_ (by first | exact LeS.le | exact LeS.add _ | (simp; done) | (simp; omega)) _) | (with_reducible refine Ext.setCell ?_ (by first | exact LeS.le | exact LeS.add _ | (simp; done) | (simp; omega)) _))))).mono ?_; rintro e w' ⟨v3, rfl, ⟨z3, rfl⟩, o3⟩))
  have O3 := Lib.hid o3; clear o3
  (refine wp_region_up (by kernel_rfl) (by kernel_rfl) ?_; (repeat (go_big_quiet_step (first | (go_at_call 75; exact Calls.up (iRootOf_any s _ _ ((O3.out.sl Ent.enc_length).up (by repeat (first | (with_reducible exact Ext.refl _) | (with_reducible refine Ext.up ?_ _) | (with_reducible refine Ext.alloc ?_ _) | (with_reducible refine Ext.drew ?_) | (with_reducible refine Ext.setRow ?_ (by first | exact LeS.le | exact LeS.add _ | (simp; done) | (simp; omega)) _) | (with_reducible refine Ext.setCell ?_ (by first | exact LeS.le | exact LeS.add _ | (simp; done) | (simp; omega)) _)))))) | (go_at_call 76; exact Calls.up (iEffectsSum_nil _))))); refine wpQuiet_nil ?_; intro _ hw'; obtain ⟨zq, hw''⟩ := hw'; subst hw'')
  go_wp2_with fail
  go_ret
  exact ⟨rfl, (.of (by repeat (first | (with_reducible exact Ext.refl _) | (with_reducible refine Ext.up ?_ _) | (with_reducible refine Ext.alloc ?_ _) | (with_reducible refine Ext.drew ?_) | (with_reducible refine Ext.setRow ?_ (by first | exact LeS.le | exact LeS.add _ | (simp; done) | (simp; omega)) _) | (with_reducible refine Ext.setCell ?_ (by first | exact LeS.le | exact LeS.add _ | (simp; done) | (simp; omega)) _))))⟩
end Go.Proofs.Ytknohbdhbjppjaa
namespace Go.Proofs.Ytknohbdhbjppjaa
open Go Go.RowKit Go.Proofs

theorem OE.keepR {eT eE lo rb : Nat} {w w' : World} {v : Value} {ts : List TE} (h : OE eT eE lo w v ts) (hg : w.grownBy w' (some rb)) (hlt : rb < lo) : OE eT eE lo w' v ts :=
  ⟨Own.kept h.1 hg (h.1.ne_rb hlt), fun x hx => ⟨⟨Own.kept (h.2 x hx).1.1 hg ((h.2 x hx).1.1.ne_rb hlt), (h.2 x hx).1.2⟩, ⟨Own.kept (h.2 x hx).2.1 hg ((h.2 x hx).2.1.ne_rb hlt), (h.2 x hx).2.2⟩⟩⟩
theorem runStep_len {v : List Int} {l : List Actn} (hv : v.length = 32) : (runAll v l).1.length = 32 := by
  have key : ∀ (l : List Actn) (p : List Int × List Eff), (l.foldl runStep p).1.length = p.1.length := by
    intro l
    induction l with
    | nil => intro p; rfl
    | cons x l ih => intro p; rw [List.foldl_cons, ih]; exact vsets_length _ _
  exact (key l (v, [])).trans hv
theorem rowKept {α : Type} {enc : α → List Value} {e sz lo rb : Nat} {W1 w7 : World} {v : Value} {l : List α} {o r : Obj} (hown : Own enc e sz lo W1 v l) (hlt : rb < lo) (hr : W1.heap[rb]? = some r) (g8 : (W1.alloc o).grownBy w7 v.ownBlock) : w7.heap[rb]? = some r := by
  have hs : rb < W1.heap.size := (Array.getElem?_eq_some_iff.1 hr).1
  refine (g8.block rb (by simp; omega) (fun e => ?_)).trans ((heap_alloc_old W1 o hs).trans hr)
  rcases hown.ne_rb hlt with h | h
  · rw [h] at e; cases e
  · exact h e.symm
theorem grownBy_setRow (a : World) (g : Nat) (cs : Array Value) : a.grownBy (a.setRow g cs) (some g) :=
  ⟨rfl, rfl, rfl, by simp [World.setRow], fun n hn hne => setRow_other a g n cs (fun e => hne (by rw [e]))⟩
set_option maxRecDepth 100000 in
set_option maxHeartbeats 4000000 in
theorem runAll_any (v : List Int) (l : List Actn) (vl : Value) (w : World) (hl : SL (RF Actn.enc) 4 w vl l) (hv : v.length = 32) (hvi : valsIn v) (hok : ∀ x ∈ l, x.ok = true) (hlen : l.length ≤ 1000000) :
    Calls Try.prog 98 #[.agg (vA v), vl] w fun e w' => ∃ v2 ts, e = .returned (.tuple #[.agg (vA (runAll v l).1), v2]) ∧ Up w w' ∧ OE 115 97 w.heap.size w' v2 ts ∧ ts.map TE.core = (runAll v l).2 := by
  obtain ⟨p3, c3, rfl, hll, hcl⟩ := hl.open
  have Hl := Lib.hid hl; have Hvi := Lib.hid hvi; have Hok := Lib.hid hok; have Hv := Lib.hid hv
  clear hl hvi hok hv
  go_enter Try.func98, Try.ntmps98
  go_wp2_with fail
  go_loopw [6, 14] (fun s6 s14 wr => ∃ (k : Nat) (ts : List TE), s14 = .int .i64 k ∧ k ≤ l.length ∧ Up w wr ∧ Row 121 wr w.heap.size (runAll v (l.take k)).1 ∧ Row 121 wr (w.heap.size + 1) zeros ∧ OE 115 97 (w.heap.size + 1 + 1) wr s6 ts ∧ ts.map TE.core = (runAll v (l.take k)).2) (fun _ s14 _ => l.length - (intOf s14).toNat)
  case atStart => exact ⟨0, [], rfl, Nat.zero_le _, (.of (by repeat (first | (with_reducible exact Ext.refl _) | (with_reducible refine Ext.up ?_ _) | (with_reducible refine Ext.alloc ?_ _) | (with_reducible refine Ext.drew ?_) | (with_reducible refine Ext.setRow ?_ (by first | exact LeS.le | exact LeS.add _ | (simp; done) | (simp; omega)) _) | (with_reducible refine Ext.setCell ?_ (by first | exact LeS.le | exact LeS.add _ | (simp; done) | (simp; omega)) _)))), Row.of_eq (heap_alloc2_old _ _ _) rfl, Row.of_eq (heap_alloc2_new _ _ _) vA_zeros.symm, ⟨Own.nil _ _ _ _ _, by simp⟩, rfl⟩
  case round =>
    obtain ⟨k, ts, rfl, hk, ⟨z, rfl⟩, r0, r1, hoe, hts⟩ := hrel
    have htl : ts.length ≤ 1000000 := by rw [← List.length_map (f := TE.core), hts, runAll_len, List.length_take]; omega
    have Hoe := Lib.hid hoe; have Hts := Lib.hid hts
    clear hoe hts
    by_cases hlt : k < l.length
    · obtain ⟨x, hxk⟩ := getElem?_some_of_lt hlt
      obtain ⟨g, off, hp, hb, _⟩ := hcl k x hxk
      obtain ⟨c0, c1, c2, c3⟩ := acell hcl hp hxk
      subst hp
      have hxo := Hok.out x (List.mem_of_getElem? hxk)
      have hVi : valsIn (runAll v (l.take k)).1 := runAll_in Hvi.out fun y hy => Hok.out y (List.mem_of_mem_take hy)
      have hVl : (runAll v (l.take k)).1.length = 32 := runStep_len Hv.out
      have Hsn := Lib.hid (runAll_snoc v hxk)
      generalize hR : runAll v (l.take k) = R at *
      have kr := fun w => run_any x R.1 w hVl hVi hxo
      have hei := Lib.hid (fun e he => entsOk_mem (runV_ok hVi hxo) (x := e) he)
      have hVl' := Lib.hid hVl
      have hwl := entsOk_len (runV_ok hVi hxo)
      clear hcl hxk hVi hxo hR hVl
      generalize hE : runV R.1 x = E at *
      have HE := Lib.hid hE; clear hE
      have hL0 := r0.lts
      have hL1 := r1.lts
      have R0 := Lib.hid r0; have R1 := Lib.hid r1
      clear r0 r1
      go_wp2_with (first | (refine wpList_load_row rfl _ _ rfl _ rfl _ _ _ _ (R0.out.up (by repeat (first | (with_reducible exact Ext.refl _) | (with_reducible refine Ext.up ?_ _) | (with_reducible refine Ext.alloc ?_ _) | (with_reducible refine Ext.drew ?_) | (with_reducible refine Ext.setRow ?_ (by first | exact LeS.le | exact LeS.add _ | (simp; done) | (simp; omega)) _) | (with_reducible refine Ext.setCell ?_ (by first | exact LeS.le | exact LeS.add _ | (simp; done) | (simp; omega)) _)))).eq Try.underlying121 rfl (by rw [vA_size, hVl'.out]; exact Try.sVals) ?_) | ((go_at_call 148; refine (kr _).mono ?_; rintro e w' ⟨vr, vw, rfl, ⟨z4, rfl⟩, q1, q2, ap⟩); obtain ⟨p1, cc1, rfl, _, _⟩ := (q1.sl Ent.enc_length).openc; obtain ⟨p2, cc2, rfl, _, hw2⟩ := (q2.sl Ent.enc_length).open; have Q1 := Lib.hid q1; have Q2 := Lib.hid q2; have HW2 := Lib.hid hw2; clear q1 q2 ap hw2))
      have hsz : w.heap.size + 1 < z.val.heap.size := hL1.lt
      have hsz4 : z.val.heap.size < z4.val.heap.size := by have := z4.ext.size; simp at this; omega
      have r05 := R0.out.up (show Ext z.val (z4.val.alloc (.cells #[.bool E.d, .slice p1 E.r.length cc1, .slice p2 E.w.length cc2] 115)) from (by repeat (first | (with_reducible exact Ext.refl _) | (with_reducible refine Ext.up ?_ _) | (with_reducible refine Ext.alloc ?_ _) | (with_reducible refine Ext.drew ?_) | (with_reducible refine Ext.setRow ?_ (by first | exact LeS.le | exact LeS.add _ | (simp; done) | (simp; omega)) _) | (with_reducible refine Ext.setCell ?_ (by first | exact LeS.le | exact LeS.add _ | (simp; done) | (simp; omega)) _))))
      have r15 := R1.out.up (show Ext z.val (z4.val.alloc (.cells #[.bool E.d, .slice p1 E.r.length cc1, .slice p2 E.w.length cc2] 115)) from (by repeat (first | (with_reducible exact Ext.refl _) | (with_reducible refine Ext.up ?_ _) | (with_reducible refine Ext.alloc ?_ _) | (with_reducible refine Ext.drew ?_) | (with_reducible refine Ext.setRow ?_ (by first | exact LeS.le | exact LeS.add _ | (simp; done) | (simp; omega)) _) | (with_reducible refine Ext.setCell ?_ (by first | exact LeS.le | exact LeS.add _ | (simp; done) | (simp; omega)) _))))
      have oe5 := Hoe.out.up (show Ext z.val (z4.val.alloc (.cells #[.bool E.d, .slice p1 E.r.length cc1, .slice p2 E.w.length cc2] 115)) from (by repeat (first | (with_reducible exact Ext.refl _) | (with_reducible refine Ext.up ?_ _) | (with_reducible refine Ext.alloc ?_ _) | (with_reducible refine Ext.drew ?_) | (with_reducible refine Ext.setRow ?_ (by first | exact LeS.le | exact LeS.add _ | (simp; done) | (simp; omega)) _) | (with_reducible refine Ext.setCell ?_ (by first | exact LeS.le | exact LeS.add _ | (simp; done) | (simp; omega)) _))))
      have q15 := Q1.out.up (show Ext z4.val (z4.val.alloc (.cells #[.bool E.d, .slice p1 E.r.length cc1, .slice p2 E.w.length cc2] 115)) from (by repeat (first | (with_reducible exact Ext.refl _) | (with_reducible refine Ext.up ?_ _) | (with_reducible refine Ext.alloc ?_ _) | (with_reducible refine Ext.drew ?_) | (with_reducible refine Ext.setRow ?_ (by first | exact LeS.le | exact LeS.add _ | (simp; done) | (simp; omega)) _) | (with_reducible refine Ext.setCell ?_ (by first | exact LeS.le | exact LeS.add _ | (simp; done) | (simp; omega)) _))))
      have q25 := Q2.out.up (show Ext z4.val (z4.val.alloc (.cells #[.bool E.d, .slice p1 E.r.length cc1, .slice p2 E.w.length cc2] 115)) from (by repeat (first | (with_reducible exact Ext.refl _) | (with_reducible refine Ext.up ?_ _) | (with_reducible refine Ext.alloc ?_ _) | (with_reducible refine Ext.drew ?_) | (with_reducible refine Ext.setRow ?_ (by first | exact LeS.le | exact LeS.add _ | (simp; done) | (simp; omega)) _) | (with_reducible refine Ext.setCell ?_ (by first | exact LeS.le | exact LeS.add _ | (simp; done) | (simp; omega)) _))))
      have hE5 : Ext w (z4.val.alloc (.cells #[.bool E.d, .slice p1 E.r.length cc1, .slice p2 E.w.length cc2] 115)) := (by repeat (first | (with_reducible exact Ext.refl _) | (with_reducible refine Ext.up ?_ _) | (with_reducible refine Ext.alloc ?_ _) | (with_reducible refine Ext.drew ?_) | (with_reducible refine Ext.setRow ?_ (by first | exact LeS.le | exact LeS.add _ | (simp; done) | (simp; omega)) _) | (with_reducible refine Ext.setCell ?_ (by first | exact LeS.le | exact LeS.add _ | (simp; done) | (simp; omega)) _)))
      have e5 : (z4.val.alloc (.cells #[.bool E.d, .slice p1 E.r.length cc1, .slice p2 E.w.length cc2] 115)).heap[z4.val.heap.size]? = some (.cells #[.bool E.d, .slice p1 E.r.length cc1, .slice p2 E.w.length cc2] 115 (0, 0)) := heap_alloc_new _ _
      have hw5 : ∀ (k : Nat) (y : Ent), E.w[k]? = some y → ∃ b off, p2 = some ⟨b, off, none⟩ ∧ w.heap.size < b ∧ LtS b (z4.val.alloc (.cells #[.bool E.d, .slice p1 E.r.length cc1, .slice p2 E.w.length cc2] 115)) ∧ ∀ j u, y.enc[j]? = some u → (z4.val.alloc (.cells #[.bool E.d, .slice p1 E.r.length cc1, .slice p2 E.w.length cc2] 115)).cell? ⟨b, off + k * 2 + j, none⟩ = some u := by
        intro k y hy
        obtain ⟨b, off, rfl, hlb, hcc⟩ := HW2.out k y hy
        have := (World.ownsRow.lt Q2.out b rfl).1
        simp at this
        refine ⟨b, off, rfl, by omega, inferInstance, fun j u hu => (LtS.cell_alloc _ _ _).trans (hcc j u hu)⟩
      have A1 := Lib.hid (Apart.of_lt Hoe.out.1 Q1.out (by simp)).symm
      have A2 := Lib.hid (Apart.of_lt Hoe.out.1 Q2.out (by simp)).symm
      have hlo : w.heap.size + 1 + 1 ≤ (z.val.alloc (.cells #[.int .i64 x.kind, .int .i64 x.src, .int .i64 x.dst, .int .i64 x.amt] 86)).heap.size := by simp; omega
      have hlt5 : z4.val.heap.size < (z4.val.alloc (.cells #[.bool E.d, .slice p1 E.r.length cc1, .slice p2 E.w.length cc2] 115)).heap.size := by simp
      generalize z4.val.alloc (.cells #[.bool E.d, .slice p1 E.r.length cc1, .slice p2 E.w.length cc2] 115) = W5 at *
      generalize z4.val.heap.size = G5 at *
      have HW5 := Lib.hid hw5; have R05 := Lib.hid r05; have R15 := Lib.hid r15; have OE5 := Lib.hid oe5; have Q15 := Lib.hid (q15.lo hlo); have Q25 := Lib.hid (q25.lo hlo); have HE5 := Lib.hid hE5; have E5 := Lib.hid e5
      have hL5 : LtS w.heap.size W5 := ⟨by omega⟩
      have hL51 : LtS (w.heap.size + 1) W5 := ⟨by omega⟩
      have hL5G : LtS G5 W5 := ⟨hlt5⟩
      have hN5 : NeS G5 w.heap.size := ⟨by omega⟩
      have hNw : NeS (w.heap.size + 1) w.heap.size := ⟨by omega⟩
      clear hw5 r05 r15 oe5 q15 q25 hE5 e5 HW2 Q1 Q2 hlo hlt5 R0 R1 kr
      go_loopw [24] (fun s24 wr => ∃ (j : Nat), s24 = .int .i64 j ∧ j ≤ E.w.length ∧ (∃ z5 : ExtR w.heap.size W5, wr = z5.val) ∧ Row 121 wr w.heap.size (vsets R.1 (E.w.take j))) (fun s24 _ => E.w.length - (intOf s24).toNat)
      case atStart => exact ⟨0, rfl, Nat.zero_le _, ⟨⟨W5, grownBy_refl _ _⟩, rfl⟩, R05.out⟩
      case round =>
        obtain ⟨j, rfl, hj, ⟨z5, rfl⟩, rj⟩ := hrel
        by_cases hjl : j < E.w.length
        · obtain ⟨y, hyk⟩ := getElem?_some_of_lt hjl
          obtain ⟨b, offb, rfl, hbw, hlb, hcc⟩ := HW5.out j y hyk
          have hNb : NeS b w.heap.size := ⟨by omega⟩
          have y0 : W5.cell? ⟨b, offb + j * 2, none⟩ = some (.int .i64 y.k) := hcc 0 _ rfl
          have y1 : W5.cell? ⟨b, offb + j * 2 + 1, none⟩ = some (.int .i64 y.v) := hcc 1 _ rfl
          obtain ⟨k0, k1, _, _⟩ := hei.out y (List.mem_of_getElem? hyk)
          have k2 : y.k < 32 := by omega
          obtain ⟨u, hu⟩ := getElem?_some_of_lt (l := vsets R.1 (E.w.take j)) (k := y.k.toNat) (by rw [vsets_length, hVl'.out]; omega)
          have d0 := rj.cell hu
          have f0 := rj.frozen y.k.toNat
          have hLj := rj.lts
          have RJ := Lib.hid rj
          have Hs := Lib.hid (vsets_snoc R.1 hyk)
          clear hcc hyk hu rj
          go_wp2_with fail
          go_roundw
          case rel => exact ⟨j + 1, by go_num, by omega, ExtR.of (grownBy_trans (GB.alloc z5.grown _) (grownBy_set _ _ _)), by rw [Hs.out]; exact (RJ.out.alloc _).set _ _⟩
          case measure => simp [intOf]; omega
        · obtain rfl : j = E.w.length := by omega
          rw [List.take_length] at rj
          have RJ := Lib.hid rj
          have r15 : Row 121 z5.val (w.heap.size + 1) zeros := (z5.block hL51.lt hNw.ne).trans R15.out
          have OEZ := Lib.hid (OE.keepR OE5.out z5.grown (by omega))
          have Q1Z := Lib.hid (Own.kept Q15.out z5.grown (Q15.out.ne_rb (by omega)))
          have Q2Z := Lib.hid (Own.kept Q25.out z5.grown (Q25.out.ne_rb (by omega)))
          have eG := (z5.block hL5G.lt hN5.ne).trans E5.out
          have g50 : z5.val.cell? ⟨G5, 0, none⟩ = some (.bool E.d) := cell_of_row _ _ 0 _ _ _ eG
          have g51 : z5.val.cell? ⟨G5, 1, none⟩ = some (.slice p1 E.r.length cc1) := cell_of_row _ _ 1 _ _ _ eG
          have g52 : z5.val.cell? ⟨G5, 2, none⟩ = some (.slice p2 E.w.length cc2) := cell_of_row _ _ 2 _ _ _ eG
          have HEZ : Hid (Ext w z5.val) := Lib.hid (HE5.out.upR (Nat.le_refl _) z5)
          have hszz : W5.heap.size ≤ z5.val.heap.size := z5.grown.size
          have R1Z := Lib.hid r15
          have hL5l := hL5.lt
          have hL51l := hL51.lt
          clear rj r15 eG
          go_wp2_with (at_builtin; refine wpList_pushG fEff rfl (.tmp 34) (.tmp 36) rfl TE.enc TE.enc_length w (lo := w.heap.size + 1 + 1) [⟨E.d, .slice p1 E.r.length cc1, .slice p2 E.w.length cc2, E.r, E.w⟩] ts rfl OEZ.out.1 HEZ.out (by omega) (by omega) rfl rfl (by go_simp) rfl (oneTE _ (by intro y hy; simp at hy; subst hy; exact ⟨⟨_, _, _, rfl⟩, ⟨_, _, _, rfl⟩⟩)) (by simp; omega) (by simp; omega) ?_; intro v7 z7 o7 g7 b7)
          have S0 := Lib.hid (rowKept OEZ.out.1 (by omega) RJ.out.eq g7)
          have S1 := Lib.hid (rowKept OEZ.out.1 (by omega) R1Z.out.eq g7)
          have OE7 := Lib.hid (OE.snoc (OEZ.out.up (by repeat (first | (with_reducible exact Ext.refl _) | (with_reducible refine Ext.up ?_ _) | (with_reducible refine Ext.alloc ?_ _) | (with_reducible refine Ext.drew ?_) | (with_reducible refine Ext.setRow ?_ (by first | exact LeS.le | exact LeS.add _ | (simp; done) | (simp; omega)) _) | (with_reducible refine Ext.setCell ?_ (by first | exact LeS.le | exact LeS.add _ | (simp; done) | (simp; omega)) _)))) g7 b7 o7 (Q1Z.out.up (by repeat (first | (with_reducible exact Ext.refl _) | (with_reducible refine Ext.up ?_ _) | (with_reducible refine Ext.alloc ?_ _) | (with_reducible refine Ext.drew ?_) | (with_reducible refine Ext.setRow ?_ (by first | exact LeS.le | exact LeS.add _ | (simp; done) | (simp; omega)) _) | (with_reducible refine Ext.setCell ?_ (by first | exact LeS.le | exact LeS.add _ | (simp; done) | (simp; omega)) _)))) A1.out (Q2Z.out.up (by repeat (first | (with_reducible exact Ext.refl _) | (with_reducible refine Ext.up ?_ _) | (with_reducible refine Ext.alloc ?_ _) | (with_reducible refine Ext.drew ?_) | (with_reducible refine Ext.setRow ?_ (by first | exact LeS.le | exact LeS.add _ | (simp; done) | (simp; omega)) _) | (with_reducible refine Ext.setCell ?_ (by first | exact LeS.le | exact LeS.add _ | (simp; done) | (simp; omega)) _)))) A2.out)
          clear o7 g7 b7
          go_wp2_with fail
          go_roundw
          case rel =>
            refine ⟨k + 1, _, by go_num, by omega, ⟨z7, rfl⟩, ?_, S1.out, OE7.out, ?_⟩
            · rw [Hsn.out]
              show Row 121 z7.val w.heap.size (vsets R.1 (runV R.1 x).w)
              rw [HE.out]
              exact S0.out
            · rw [Hsn.out]
              show _ = R.2 ++ [runV R.1 x]
              rw [HE.out, List.map_append, Hts.out]; rfl
          case measure => simp [intOf]; omega
    · obtain rfl : k = l.length := by omega
      rw [List.take_length] at r0 Hts
      have hRl : (runAll v l).1.length = 32 := runStep_len Hv.out
      have R0 := Lib.hid r0; have R1 := Lib.hid r1
      clear hcl r0 r1
      go_wp2_with (first | (refine wpList_load_row rfl _ _ rfl _ rfl _ _ _ _ R0.out.eq Try.underlying121 rfl (by rw [vA_size, hRl]; exact Try.sVals) ?_) | (refine wpList_store_row rfl _ _ _ rfl _ _ rfl rfl _ _ R1.out.eq (by rw [vA_size, hRl]; exact Try.sVals) (by rw [vA_size, vA_size, hRl, zeros_length]) (vA_one _) ?_))
      refine bodyPost_ret (results_cell_row2 (p := 4) (q := 5) (by kernel_rfl) _ _ (w.heap.size + 1) _ (vA (runAll v l).1) (0, 0) _ rfl rfl (R1.out.setRow _).eq Try.underlying121 rfl (by rw [vA_size, hRl]; exact Try.sVals)) rfl ⟨_, ts, rfl, (.of (by repeat (first | exact Ext.refl _ | refine Ext.up ?_ _ | refine Ext.alloc ?_ _ | refine Ext.drew ?_ | refine Ext.setRow ?_ (by first | (dsimp only; omega) | exact LeS.le | exact LeS.add _ | (simp; done) | (simp; omega)) _ | refine Ext.setCell ?_ (by first | (dsimp only; omega) | exact LeS.le | exact LeS.add _ | (simp; done) | (simp; omega)) _))), (OE.keepR Hoe.out (grownBy_setRow _ _ _) (by omega)).lo (by omega), Hts.out⟩
end Go.Proofs.Ytknohbdhbjppjaa
namespace Go.Proofs.Ytknohbdhbjppjaa
open Go Go.RowKit Go.Proofs

theorem step_catW {P : Program} {t e sz bytes : Nat} (F : AppFacts P t e sz bytes) {ops : Array Oper} {o : Oper} {a : Act} {K : Act → World → Prop} {Q : Exit → Act → World → Prop} {E : Prop} (hw : Region.wanted o (yielded ops a.tmps) = true) (s x : Operand)
    (ho : o.op = .call { callee := .builtin .append, args := #[s, x], argTypes := #[t, t] }) {α : Type} (enc : α → List Value) (he : ∀ x, (enc x).length = sz) (Wb : World) {lo : Nat} {w : World} (ys : List α) (l : List α) {v vx : Value} (hs : a.eval s = v)
    (hx : a.eval x = vx) (hown : Own enc e sz lo w v l) (hE : Ext Wb w) (hlo : Wb.heap.size ≤ lo) (hlo' : lo ≤ w.heap.size) (hys : SL (RF enc) sz w vx ys)
    (h1 : ∀ u ∈ ys.flatMap enc, u.oneCell' = true) (hb : (l.length + ys.length) * bytes ≤ 140737488355328) (hb' : l.length + ys.length ≤ 9223372036854775807)
    (h : ∀ v' (z1 : Extd Wb), Own enc e sz lo z1.val v' (l ++ ys) → w.grownBy z1.val v.ownBlock → (v'.ownBlock = v.ownBlock ∨ v'.ownBlock = some w.heap.size) → K (a.put o.dst v') z1.val) :
    if Region.wanted o (yielded ops a.tmps) = true then Oper.wp P o a w K Q else E := by
  rw [if_pos hw]
  obtain ⟨i, z, hi, hz, hsize, hby, hzs⟩ := F.info
  have hown' : w.ownsRow lo e sz v l.length (l.flatMap enc) := hown
  obtain ⟨p, c, rfl, _, hc⟩ := hys.open
  rcases p with _ | ad
  · obtain rfl : ys = [] := by
      cases ys with
      | nil => rfl
      | cons y ys => obtain ⟨_, _, e2, _⟩ := hc 0 y rfl; cases e2
    have hrun := run_append_none (P := P) (w := w) lo t o.type e i sz F.und hi v l.length c _ hown'
    unfold Oper.wp
    simp [execOp, ho, resolve, invoke, builtin, hs, hx, hrun, Result.andThen]
    exact h v ⟨w, hE⟩ (by rw [List.append_nil]; exact hown) ⟨rfl, rfl, rfl, Nat.le_refl _, fun _ _ _ => rfl⟩ (.inl rfl)
  · obtain ⟨v', w1, hr, h2, h3, h4, h5⟩ := run_append_own_at (P := P) w lo t o.type e i z sz bytes F.und hi hz hsize hby hzs F.pos v l.length (l.flatMap enc) hown' ad ys.length c (ys.flatMap enc) (flatMap_length he ys) (fun j u hu => by
      have hj := (List.getElem?_eq_some_iff.1 hu).1
      have h0 : 0 < ys.length := by
        cases ys with
        | nil => simp at hj
        | cons y ys => simp
      obtain ⟨y, hy⟩ := getElem?_some_of_lt (l := ys) (k := 0) h0
      obtain ⟨b, off, e2, _⟩ := hc 0 y hy
      cases e2
      have e1 : (⟨b, off, none⟩ : Addr).add j = ⟨b, off + j, none⟩ := by unfold Addr.add; split <;> simp_all
      rw [e1]
      exact SL.flatC he hys j u hu) h1 (by simpa [maxLen] using hb') hb hlo'
    unfold Oper.wp execOp
    simp only [ho, resolve, invoke, builtin, Sem.run_bind, Sem.run_pure, Result.andThen_ok, List.map_toArray, List.map_cons, List.map_nil, hs, hx, hr]
    refine h v' ⟨w1, hE.grown h3 fun k hk => Nat.le_trans hlo (World.ownsRow.lt hown' k hk).1⟩ ?_ h3 h5
    show w1.ownsRow _ _ _ _ _ _
    simpa [Own] using h2
theorem step_catA {P : Program} {t e sz bytes : Nat} (F : AppFacts P t e sz bytes) {ops : Array Oper} {o : Oper} {a : Act} {K : Act → World → Prop} {Q : Exit → Act → World → Prop} {E : Prop} (hgd : o.guard = none) (s x : Operand)
    (ho : o.op = .call { callee := .builtin .append, args := #[s, x], argTypes := #[t, t] }) {α : Type} (enc : α → List Value) (he : ∀ x, (enc x).length = sz) (Wb : World) {lo : Nat} {w : World} (ys : List α) (l : List α) {v vx : Value} (hs : a.eval s = v)
    (hx : a.eval x = vx) (hown : Own enc e sz lo w v l) (hE : Ext Wb w) (hlo : Wb.heap.size ≤ lo) (hlo' : lo ≤ w.heap.size) (hys : SL (RF enc) sz w vx ys)
    (h1 : ∀ u ∈ ys.flatMap enc, u.oneCell' = true) (hb : (l.length + ys.length) * bytes ≤ 140737488355328) (hb' : l.length + ys.length ≤ 9223372036854775807)
    (h : ∀ v' (z1 : Extd Wb), Own enc e sz lo z1.val v' (l ++ ys) → w.grownBy z1.val v.ownBlock → (v'.ownBlock = v.ownBlock ∨ v'.ownBlock = some w.heap.size) → K (a.put o.dst v') z1.val) :
    if Region.wanted o (yielded ops a.tmps) = true then Oper.wp P o a w K Q else E := step_catW F (by simp [Region.wanted, hgd]) s x ho enc he Wb ys l hs hx hown hE hlo hlo' hys h1 hb hb' h
/-- The first j elements are the call's own too. -/
theorem Own.first {α : Type} {enc : α → List Value} {e sz lo : Nat} (he : ∀ x, (enc x).length = sz) {w : World} {p : Option Addr} {n c : Nat} {l : List α} (h : Own enc e sz lo w (.slice p n c) l) {j : Nat} (hj : j ≤ l.length) : Own enc e sz lo w (.slice p j c) (l.take j) := by
  have hl : (l.take j).length = j := by rw [List.length_take]; omega
  have hf : (l.take j).flatMap enc = (l.flatMap enc).take (j * sz) := by
    have e1 : l.flatMap enc = (l.take j).flatMap enc ++ (l.drop j).flatMap enc := by rw [← List.flatMap_append, List.take_append_drop]
    rw [e1, List.take_left' (by rw [flatMap_length he, hl])]
  show w.ownsRow lo e sz _ _ _
  rw [hl, hf]
  refine ⟨by rw [List.length_take, flatMap_length he, Nat.min_eq_left (Nat.mul_le_mul_right _ hj)], ?_⟩
  rcases h.2 with ⟨h1, h2⟩ | ⟨g, cap, cur, hv, hlo, hg, hnc, hcm, hcs, ht⟩
  · cases h1
    left; exact ⟨by rw [show j = 0 by omega], by omega⟩
  · cases hv
    right
    refine ⟨g, c, cur, rfl, hlo, hg, by omega, hcm, hcs, ?_⟩
    rw [← ht, List.take_take, Nat.min_eq_left (Nat.mul_le_mul_right _ hj)]
/-- The elements from j on. -/
theorem SL.rest {α : Type} {R : World → List Value → α → Prop} {sz : Nat} {w : World} {b off n cap : Nat} {l : List α} (h : SL R sz w (.slice (some ⟨b, off, none⟩) n cap) l) {j : Nat} (hj : j ≤ l.length) {m c : Nat} (hm : m = l.length - j) (hc : m ≤ c) {o : Nat} (ho : o = off + j * sz) : SL R sz w (.slice (some ⟨b, o, none⟩) m c) (l.drop j) := by
  subst hm; subst ho
  obtain ⟨a', cap', hv, hl, hcc⟩ := h
  cases hv
  have e : (l.drop j).length = l.length - j := List.length_drop
  refine ⟨_, c, by rw [e], ⟨by rw [e]; omega, by rw [e]; exact hc⟩, fun hne => ?_⟩
  obtain ⟨b', off', ha, hb, hx⟩ := hcc (by intro e0; subst e0; simp at hne)
  cases ha
  refine ⟨b, off + j * sz, rfl, hb, fun i x hi => ?_⟩
  rw [List.getElem?_drop] at hi
  obtain ⟨cs, h1, h2, h3⟩ := hx (j + i) x hi
  refine ⟨cs, h1, fun q u hu => ?_, h3⟩
  rw [← h2 q u hu]
  congr 2
  rw [Nat.add_mul]; omega
end Go.Proofs.Ytknohbdhbjppjaa
