/- Walks: actions one after the other, on the program's side. Walks: engines on the program's side: effects that are equal, what an action reads now. -/
import Derived.Test.YtkboefmkfpnpjaaGEvTop15
import Derived.Test.YtkboefmkfpnpjaaGEvTop16
import Derived.Test.YtkboefmkfpnpjaaGEvTop18
import Derived.Test.YtkboefmkfpnpjaaGEvTop20
import Derived.Test.YtkboefmkfpnpjaaGEvTop19
set_option linter.unusedSimpArgs false
set_option linter.unusedVariables false
namespace Go.Proofs.Ytkboefmkfpnpjaa
open Go Go.RowKit Go.Proofs

theorem OE.keepR {eT eE lo rb : Nat} {w w' : World} {v : Value} {ts : List TE} (h : OE eT eE lo w v ts) (hg : w.grownBy w' (some rb)) (hlt : rb < lo) : OE eT eE lo w' v ts :=
  ⟨Own.kept h.1 hg (h.1.ne_rb hlt), fun x hx => ⟨⟨Own.kept (h.2 x hx).1.1 hg ((h.2 x hx).1.1.ne_rb hlt), (h.2 x hx).1.2⟩, ⟨Own.kept (h.2 x hx).2.1 hg ((h.2 x hx).2.1.ne_rb hlt), (h.2 x hx).2.2⟩⟩⟩
theorem runStep_len {v : List Int} {l : List Actn} (hv : v.length = 32) : (runAll v l).1.length = 32 := by
  have key : ∀ (l : List Actn) (p : List Int × List Eff), (l.foldl runStep p).1.length = p.1.length := by
    intro l
    induction l with
    | nil => intro p; rfl
    | cons x l ih => intro p; rw [List.foldl_cons, ih]; exact vsets_length _ _
  exact (key l (v, [])).trans hv
theorem rowKept {α : Type} {enc : α → List Value} {e sz lo rb : Nat} {W1 w7 : World} {v : Value} {l : List α} {o r : Obj} (hown : Own enc e sz lo W1 v l) (hlt : rb < lo) (hr : W1.heap[rb]? = some r) (g8 : (W1.alloc o).grownBy w7 v.ownBlock) : w7.heap[rb]? = some r := by
  have hs : rb < W1.heap.size := (Array.getElem?_eq_some_iff.1 hr).1
  refine (g8.block rb (by simp; omega) (fun e => ?_)).trans ((heap_alloc_old W1 o hs).trans hr)
  rcases hown.ne_rb hlt with h | h
  · rw [h] at e; cases e
  · exact h e.symm
theorem grownBy_setRow (a : World) (g : Nat) (cs : Array Value) : a.grownBy (a.setRow g cs) (some g) :=
  ⟨rfl, rfl, rfl, by simp [World.setRow], fun n hn hne => setRow_other a g n cs (fun e => hne (by rw [e]))⟩
set_option maxRecDepth 100000 in
set_option maxHeartbeats 4000000 in
theorem runAll_any (v : List Int) (l : List Actn) (vl : Value) (w : World) (hl : SL (RF Actn.enc) 4 w vl l) (hv : v.length = 32) (hvi : valsIn v) (hok : ∀ x ∈ l, x.ok = true) (hlen : l.length ≤ 1000000) :
    Calls Try.prog 70 #[.agg (vA v), vl] w fun e w' => ∃ v2 ts, e = .returned (.tuple #[.agg (vA (runAll v l).1), v2]) ∧ Up w w' ∧ OE 40 31 w.heap.size w' v2 ts ∧ ts.map TE.core = (runAll v l).2 := by
  obtain ⟨p3, c3, rfl, hll, hcl⟩ := hl.open
  have Hl := Lib.hid hl; have Hvi := Lib.hid hvi; have Hok := Lib.hid hok; have Hv := Lib.hid hv
  clear hl hvi hok hv
  go_enter Try.func70, Try.ntmps70
  go_wp2_with fail
  go_loopw [6, 14] (fun s6 s14 wr => ∃ (k : Nat) (ts : List TE), s14 = .int .i64 k ∧ k ≤ l.length ∧ Up w wr ∧ Row 99 wr w.heap.size (runAll v (l.take k)).1 ∧ Row 99 wr (w.heap.size + 1) zeros ∧ OE 40 31 (w.heap.size + 1 + 1) wr s6 ts ∧ ts.map TE.core = (runAll v (l.take k)).2) (fun _ s14 _ => l.length - (intOf s14).toNat)
  case atStart => exact ⟨0, [], rfl, Nat.zero_le _, (.of (by repeat (first | (with_reducible exact Ext.refl _) | (with_reducible refine Ext.up ?_ _) | (with_reducible refine Ext.alloc ?_ _) | (with_reducible refine Ext.drew ?_) | (with_reducible refine Ext.setRow ?_ (by first | exact LeS.le | exact LeS.add _ | (simp; done) | (simp; omega)) _) | (with_reducible refine Ext.setCell ?_ (by first | exact LeS.le | exact LeS.add _ | (simp; done) | (simp; omega)) _)))), Row.of_eq (heap_alloc2_old _ _ _) rfl, Row.of_eq (heap_alloc2_new _ _ _) vA_zeros.symm, ⟨Own.nil _ _ _ _ _, by simp⟩, rfl⟩
  case round =>
    obtain ⟨k, ts, rfl, hk, ⟨z, rfl⟩, r0, r1, hoe, hts⟩ := hrel
    have htl : ts.length ≤ 1000000 := by rw [← List.length_map (f := TE.core), hts, runAll_len, List.length_take]; omega
    have Hoe := Lib.hid hoe; have Hts := Lib.hid hts
    clear hoe hts
    by_cases hlt : k < l.length
    · obtain ⟨x, hxk⟩ := getElem?_some_of_lt hlt
      obtain ⟨g, off, hp, hb, _⟩ := hcl k x hxk
      obtain ⟨c0, c1, c2, c3⟩ := acell hcl hp hxk
      subst hp
      have hxo := Hok.out x (List.mem_of_getElem? hxk)
      have hVi : valsIn (runAll v (l.take k)).1 := runAll_in Hvi.out fun y hy => Hok.out y (List.mem_of_mem_take hy)
      have hVl : (runAll v (l.take k)).1.length = 32 := runStep_len Hv.out
      have Hsn := Lib.hid (runAll_snoc v hxk)
      generalize hR : runAll v (l.take k) = R at *
      have kr := fun w => run_any x R.1 w hVl hVi hxo
      have hei := Lib.hid (fun e he => entsOk_mem (runV_ok hVi hxo) (x := e) he)
      have hVl' := Lib.hid hVl
      have hwl := entsOk_len (runV_ok hVi hxo)
      clear hcl hxk hVi hxo hR hVl
      generalize hE : runV R.1 x = E at *
      have HE := Lib.hid hE; clear hE
      have hL0 := r0.lts
      have hL1 := r1.lts
      have R0 := Lib.hid r0; have R1 := Lib.hid r1
      clear r0 r1
      go_wp2_with (first | (refine wpList_load_row rfl _ _ rfl _ rfl _ _ _ _ (R0.out.up (by repeat (first | (with_reducible exact Ext.refl _) | (with_reducible refine Ext.up ?_ _) | (with_reducible refine Ext.alloc ?_ _) | (with_reducible refine Ext.drew ?_) | (with_reducible refine Ext.setRow ?_ (by first | exact LeS.le | exact LeS.add _ | (simp; done) | (simp; omega)) _) | (with_reducible refine Ext.setCell ?_ (by first | exact LeS.le | exact LeS.add _ | (simp; done) | (simp; omega)) _)))).eq Try.underlying99 rfl (by rw [vA_size, hVl'.out]; exact Try.sVals) ?_) | ((go_at_call 83; refine (kr _).mono ?_; rintro e w' ⟨vr, vw, rfl, ⟨z4, rfl⟩, q1, q2, ap⟩); obtain ⟨p1, cc1, rfl, _, _⟩ := (q1.sl Ent.enc_length).openc; obtain ⟨p2, cc2, rfl, _, hw2⟩ := (q2.sl Ent.enc_length).open; have Q1 := Lib.hid q1; have Q2 := Lib.hid q2; have HW2 := Lib.hid hw2; clear q1 q2 ap hw2))
      have hsz : w.heap.size + 1 < z.val.heap.size := hL1.lt
      have hsz4 : z.val.heap.size < z4.val.heap.size := by have := z4.ext.size; simp at this; omega
      have r05 := R0.out.up (show Ext z.val (z4.val.alloc (.cells #[.bool E.d, .slice p1 E.r.length cc1, .slice p2 E.w.length cc2] 40)) from (by repeat (first | (with_reducible exact Ext.refl _) | (with_reducible refine Ext.up ?_ _) | (with_reducible refine Ext.alloc ?_ _) | (with_reducible refine Ext.drew ?_) | (with_reducible refine Ext.setRow ?_ (by first | exact LeS.le | exact LeS.add _ | (simp; done) | (simp; omega)) _) | (with_reducible refine Ext.setCell ?_ (by first | exact LeS.le | exact LeS.add _ | (simp; done) | (simp; omega)) _))))
      have r15 := R1.out.up (show Ext z.val (z4.val.alloc (.cells #[.bool E.d, .slice p1 E.r.length cc1, .slice p2 E.w.length cc2] 40)) from (by repeat (first | (with_reducible exact Ext.refl _) | (with_reducible refine Ext.up ?_ _) | (with_reducible refine Ext.alloc ?_ _) | (with_reducible refine Ext.drew ?_) | (with_reducible refine Ext.setRow ?_ (by first | exact LeS.le | exact LeS.add _ | (simp; done) | (simp; omega)) _) | (with_reducible refine Ext.setCell ?_ (by first | exact LeS.le | exact LeS.add _ | (simp; done) | (simp; omega)) _))))
      have oe5 := Hoe.out.up (show Ext z.val (z4.val.alloc (.cells #[.bool E.d, .slice p1 E.r.length cc1, .slice p2 E.w.length cc2] 40)) from (by repeat (first | (with_reducible exact Ext.refl _) | (with_reducible refine Ext.up ?_ _) | (with_reducible refine Ext.alloc ?_ _) | (with_reducible refine Ext.drew ?_) | (with_reducible refine Ext.setRow ?_ (by first | exact LeS.le | exact LeS.add _ | (simp; done) | (simp; omega)) _) | (with_reducible refine Ext.setCell ?_ (by first | exact LeS.le | exact LeS.add _ | (simp; done) | (simp; omega)) _))))
      have q15 := Q1.out.up (show Ext z4.val (z4.val.alloc (.cells #[.bool E.d, .slice p1 E.r.length cc1, .slice p2 E.w.length cc2] 40)) from (by repeat (first | (with_reducible exact Ext.refl _) | (with_reducible refine Ext.up ?_ _) | (with_reducible refine Ext.alloc ?_ _) | (with_reducible refine Ext.drew ?_) | (with_reducible refine Ext.setRow ?_ (by first | exact LeS.le | exact LeS.add _ | (simp; done) | (simp; omega)) _) | (with_reducible refine Ext.setCell ?_ (by first | exact LeS.le | exact LeS.add _ | (simp; done) | (simp; omega)) _))))
      have q25 := Q2.out.up (show Ext z4.val (z4.val.alloc (.cells #[.bool E.d, .slice p1 E.r.length cc1, .slice p2 E.w.length cc2] 40)) from (by repeat (first | (with_reducible exact Ext.refl _) | (with_reducible refine Ext.up ?_ _) | (with_reducible refine Ext.alloc ?_ _) | (with_reducible refine Ext.drew ?_) | (with_reducible refine Ext.setRow ?_ (by first | exact LeS.le | exact LeS.add _ | (simp; done) | (simp; omega)) _) | (with_reducible refine Ext.setCell ?_ (by first | exact LeS.le | exact LeS.add _ | (simp; done) | (simp; omega)) _))))
      have hE5 : Ext w (z4.val.alloc (.cells #[.bool E.d, .slice p1 E.r.length cc1, .slice p2 E.w.length cc2] 40)) := (by repeat (first | (with_reducible exact Ext.refl _) | (with_reducible refine Ext.up ?_ _) | (with_reducible refine Ext.alloc ?_ _) | (with_reducible refine Ext.drew ?_) | (with_reducible refine Ext.setRow ?_ (by first | exact LeS.le | exact LeS.add _ | (simp; done) | (simp; omega)) _) | (with_reducible refine Ext.setCell ?_ (by first | exact LeS.le | exact LeS.add _ | (simp; done) | (simp; omega)) _)))
      have e5 : (z4.val.alloc (.cells #[.bool E.d, .slice p1 E.r.length cc1, .slice p2 E.w.length cc2] 40)).heap[z4.val.heap.size]? = some (.cells #[.bool E.d, .slice p1 E.r.length cc1, .slice p2 E.w.length cc2] 40 (0, 0)) := heap_alloc_new _ _
      have hw5 : ∀ (k : Nat) (y : Ent), E.w[k]? = some y → ∃ b off, p2 = some ⟨b, off, none⟩ ∧ w.heap.size < b ∧ LtS b (z4.val.alloc (.cells #[.bool E.d, .slice p1 E.r.length cc1, .slice p2 E.w.length cc2] 40)) ∧ ∀ j u, y.enc[j]? = some u → (z4.val.alloc (.cells #[.bool E.d, .slice p1 E.r.length cc1, .slice p2 E.w.length cc2] 40)).cell? ⟨b, off + k * 2 + j, none⟩ = some u := by
        intro k y hy
        obtain ⟨b, off, rfl, hlb, hcc⟩ := HW2.out k y hy
        have := (World.ownsRow.lt Q2.out b rfl).1
        simp at this
        refine ⟨b, off, rfl, by omega, inferInstance, fun j u hu => (LtS.cell_alloc _ _ _).trans (hcc j u hu)⟩
      have A1 := Lib.hid (Apart.of_lt Hoe.out.1 Q1.out (by simp)).symm
      have A2 := Lib.hid (Apart.of_lt Hoe.out.1 Q2.out (by simp)).symm
      have hlo : w.heap.size + 1 + 1 ≤ (z.val.alloc (.cells #[.int .i64 x.kind, .int .i64 x.src, .int .i64 x.dst, .int .i64 x.amt] 24)).heap.size := by simp; omega
      have hlt5 : z4.val.heap.size < (z4.val.alloc (.cells #[.bool E.d, .slice p1 E.r.length cc1, .slice p2 E.w.length cc2] 40)).heap.size := by simp
      generalize z4.val.alloc (.cells #[.bool E.d, .slice p1 E.r.length cc1, .slice p2 E.w.length cc2] 40) = W5 at *
      generalize z4.val.heap.size = G5 at *
      have HW5 := Lib.hid hw5; have R05 := Lib.hid r05; have R15 := Lib.hid r15; have OE5 := Lib.hid oe5; have Q15 := Lib.hid (q15.lo hlo); have Q25 := Lib.hid (q25.lo hlo); have HE5 := Lib.hid hE5; have E5 := Lib.hid e5
      have hL5 : LtS w.heap.size W5 := ⟨by omega⟩
      have hL51 : LtS (w.heap.size + 1) W5 := ⟨by omega⟩
      have hL5G : LtS G5 W5 := ⟨hlt5⟩
      have hN5 : NeS G5 w.heap.size := ⟨by omega⟩
      have hNw : NeS (w.heap.size + 1) w.heap.size := ⟨by omega⟩
      clear hw5 r05 r15 oe5 q15 q25 hE5 e5 HW2 Q1 Q2 hlo hlt5 R0 R1 kr
      go_loopw [24] (fun s24 wr => ∃ (j : Nat), s24 = .int .i64 j ∧ j ≤ E.w.length ∧ (∃ z5 : ExtR w.heap.size W5, wr = z5.val) ∧ Row 99 wr w.heap.size (vsets R.1 (E.w.take j))) (fun s24 _ => E.w.length - (intOf s24).toNat)
      case atStart => exact ⟨0, rfl, Nat.zero_le _, ⟨⟨W5, grownBy_refl _ _⟩, rfl⟩, R05.out⟩
      case round =>
        obtain ⟨j, rfl, hj, ⟨z5, rfl⟩, rj⟩ := hrel
        by_cases hjl : j < E.w.length
        · obtain ⟨y, hyk⟩ := getElem?_some_of_lt hjl
          obtain ⟨b, offb, rfl, hbw, hlb, hcc⟩ := HW5.out j y hyk
          have hNb : NeS b w.heap.size := ⟨by omega⟩
          have y0 : W5.cell? ⟨b, offb + j * 2, none⟩ = some (.int .i64 y.k) := hcc 0 _ rfl
          have y1 : W5.cell? ⟨b, offb + j * 2 + 1, none⟩ = some (.int .i64 y.v) := hcc 1 _ rfl
          obtain ⟨k0, k1, _, _⟩ := hei.out y (List.mem_of_getElem? hyk)
          have k2 : y.k < 32 := by omega
          obtain ⟨u, hu⟩ := getElem?_some_of_lt (l := vsets R.1 (E.w.take j)) (k := y.k.toNat) (by rw [vsets_length, hVl'.out]; omega)
          have d0 := rj.cell hu
          have f0 := rj.frozen y.k.toNat
          have hLj := rj.lts
          have RJ := Lib.hid rj
          have Hs := Lib.hid (vsets_snoc R.1 hyk)
          clear hcc hyk hu rj
          go_wp2_with fail
          go_roundw
          case rel => exact ⟨j + 1, by go_num, by omega, ExtR.of (grownBy_trans (GB.alloc z5.grown _) (grownBy_set _ _ _)), by rw [Hs.out]; exact (RJ.out.alloc _).set _ _⟩
          case measure => simp [intOf]; omega
        · obtain rfl : j = E.w.length := by omega
          rw [List.take_length] at rj
          have RJ := Lib.hid rj
          have r15 : Row 99 z5.val (w.heap.size + 1) zeros := (z5.block hL51.lt hNw.ne).trans R15.out
          have OEZ := Lib.hid (OE.keepR OE5.out z5.grown (by omega))
          have Q1Z := Lib.hid (Own.kept Q15.out z5.grown (Q15.out.ne_rb (by omega)))
          have Q2Z := Lib.hid (Own.kept Q25.out z5.grown (Q25.out.ne_rb (by omega)))
          have eG := (z5.block hL5G.lt hN5.ne).trans E5.out
          have g50 : z5.val.cell? ⟨G5, 0, none⟩ = some (.bool E.d) := cell_of_row _ _ 0 _ _ _ eG
          have g51 : z5.val.cell? ⟨G5, 1, none⟩ = some (.slice p1 E.r.length cc1) := cell_of_row _ _ 1 _ _ _ eG
          have g52 : z5.val.cell? ⟨G5, 2, none⟩ = some (.slice p2 E.w.length cc2) := cell_of_row _ _ 2 _ _ _ eG
          have HEZ : Hid (Ext w z5.val) := Lib.hid (HE5.out.upR (Nat.le_refl _) z5)
          have hszz : W5.heap.size ≤ z5.val.heap.size := z5.grown.size
          have R1Z := Lib.hid r15
          have hL5l := hL5.lt
          have hL51l := hL51.lt
          clear rj r15 eG
          go_wp2_with (at_builtin; refine wpList_pushG fEff rfl (.tmp 34) (.tmp 36) rfl TE.enc TE.enc_length w (lo := w.heap.size + 1 + 1) [⟨E.d, .slice p1 E.r.length cc1, .slice p2 E.w.length cc2, E.r, E.w⟩] ts rfl OEZ.out.1 HEZ.out (by omega) (by omega) rfl rfl (by go_simp) rfl (oneTE _ (by intro y hy; simp at hy; subst hy; exact ⟨⟨_, _, _, rfl⟩, ⟨_, _, _, rfl⟩⟩)) (by simp; omega) (by simp; omega) ?_; intro v7 z7 o7 g7 b7)
          have S0 := Lib.hid (rowKept OEZ.out.1 (by omega) RJ.out.eq g7)
          have S1 := Lib.hid (rowKept OEZ.out.1 (by omega) R1Z.out.eq g7)
          have OE7 := Lib.hid (OE.snoc (OEZ.out.up (by repeat (first | (with_reducible exact Ext.refl _) | (with_reducible refine Ext.up ?_ _) | (with_reducible refine Ext.alloc ?_ _) | (with_reducible refine Ext.drew ?_) | (with_reducible refine Ext.setRow ?_ (by first | exact LeS.le | exact LeS.add _ | (simp; done) | (simp; omega)) _) | (with_reducible refine Ext.setCell ?_ (by first | exact LeS.le | exact LeS.add _ | (simp; done) | (simp; omega)) _)))) g7 b7 o7 (Q1Z.out.up (by repeat (first | (with_reducible exact Ext.refl _) | (with_reducible refine Ext.up ?_ _) | (with_reducible refine Ext.alloc ?_ _) | (with_reducible refine Ext.drew ?_) | (with_reducible refine Ext.setRow ?_ (by first | exact LeS.le | exact LeS.add _ | (simp; done) | (simp; omega)) _) | (with_reducible refine Ext.setCell ?_ (by first | exact LeS.le | exact LeS.add _ | (simp; done) | (simp; omega)) _)))) A1.out (Q2Z.out.up (by repeat (first | (with_reducible exact Ext.refl _) | (with_reducible refine Ext.up ?_ _) | (with_reducible refine Ext.alloc ?_ _) | (with_reducible refine Ext.drew ?_) | (with_reducible refine Ext.setRow ?_ (by first | exact LeS.le | exact LeS.add _ | (simp; done) | (simp; omega)) _) | (with_reducible refine Ext.setCell ?_ (by first | exact LeS.le | exact LeS.add _ | (simp; done) | (simp; omega)) _)))) A2.out)
          clear o7 g7 b7
          go_wp2_with fail
          go_roundw
          case rel =>
            refine ⟨k + 1, _, by go_num, by omega, ⟨z7, rfl⟩, ?_, S1.out, OE7.out, ?_⟩
            · rw [Hsn.out]
              show Row 99 z7.val w.heap.size (vsets R.1 (runV R.1 x).w)
              rw [HE.out]
              exact S0.out
            · rw [Hsn.out]
              show _ = R.2 ++ [runV R.1 x]
              rw [HE.out, List.map_append, Hts.out]; rfl
          case measure => simp [intOf]; omega
    · obtain rfl : k = l.length := by omega
      rw [List.take_length] at r0 Hts
      have hRl : (runAll v l).1.length = 32 := runStep_len Hv.out
      have R0 := Lib.hid r0; have R1 := Lib.hid r1
      clear hcl r0 r1
      go_wp2_with (first | (refine wpList_load_row rfl _ _ rfl _ rfl _ _ _ _ R0.out.eq Try.underlying99 rfl (by rw [vA_size, hRl]; exact Try.sVals) ?_) | (refine wpList_store_row rfl _ _ _ rfl _ _ rfl rfl _ _ R1.out.eq (by rw [vA_size, hRl]; exact Try.sVals) (by rw [vA_size, vA_size, hRl, zeros_length]) (vA_one _) ?_))
      refine bodyPost_ret (results_cell_row2 (p := 4) (q := 5) (by kernel_rfl) _ _ (w.heap.size + 1) _ (vA (runAll v l).1) (0, 0) _ rfl rfl (R1.out.setRow _).eq Try.underlying99 rfl (by rw [vA_size, hRl]; exact Try.sVals)) rfl ⟨_, ts, rfl, (.of (by repeat (first | exact Ext.refl _ | refine Ext.up ?_ _ | refine Ext.alloc ?_ _ | refine Ext.drew ?_ | refine Ext.setRow ?_ (by first | (dsimp only; omega) | exact LeS.le | exact LeS.add _ | (simp; done) | (simp; omega)) _ | refine Ext.setCell ?_ (by first | (dsimp only; omega) | exact LeS.le | exact LeS.add _ | (simp; done) | (simp; omega)) _))), (OE.keepR Hoe.out (grownBy_setRow _ _ _) (by omega)).lo (by omega), Hts.out⟩
end Go.Proofs.Ytkboefmkfpnpjaa
namespace Go.Proofs.Ytkboefmkfpnpjaa
open Go Go.RowKit Go.Proofs

set_option maxRecDepth 100000 in
set_option maxHeartbeats 1000000 in
theorem iSameEf_any (x y : Eff) (v0 v1 u0 u1 : Value) (w : World) (h0 : SL (RF Ent.enc) 2 w v0 x.r) (h1 : SL (RF Ent.enc) 2 w v1 x.w) (k0 : SL (RF Ent.enc) 2 w u0 y.r) (k1 : SL (RF Ent.enc) 2 w u1 y.w) :
    Calls Try.prog 156 #[.agg #[.bool x.d, v0, v1], .agg #[.bool y.d, u0, u1]] w fun e w' => e = .returned (.bool (sameEf x y)) ∧ Up w w' := by
  have H0 := Lib.hid h0; have H1 := Lib.hid h1; have K0 := Lib.hid k0; have K1 := Lib.hid k1
  obtain ⟨p0, c0, rfl, _, _⟩ := h0.openc
  obtain ⟨p1, c1, rfl, _, _⟩ := h1.openc
  obtain ⟨p2, c2, rfl, _, _⟩ := k0.openc
  obtain ⟨p3, c3, rfl, _, _⟩ := k1.openc
  have kr := fun w h h' => eqEnts_any x.r y.r (.slice p0 x.r.length c0) (.slice p2 y.r.length c2) w h h'
  have kw := fun w h h' => eqEnts_any x.w y.w (.slice p1 x.w.length c1) (.slice p3 y.w.length c3) w h h'
  have hF := Lib.hid (show sameEf x y = ((x.d == y.d) && (sameL sameE1 x.r y.r && sameL sameE1 x.w y.w)) from rfl)
  generalize sameEf x y = b at *
  generalize sameL sameE1 x.r y.r = b1 at *
  generalize sameL sameE1 x.w y.w = b2 at *
  clear h0 h1 k0 k1
  rcases hd : (x.d == y.d) with _ | _
  · rw [hd] at hF
    obtain rfl : b = false := hF.out
    clear hF kr kw
    go_enter Try.func156, Try.ntmps156
    go_wp2_with fail
    go_ret
    exact ⟨rfl, (.of (by repeat (first | (with_reducible exact Ext.refl _) | (with_reducible refine Ext.up ?_ _) | (with_reducible refine Ext.alloc ?_ _) | (with_reducible refine Ext.drew ?_) | (with_reducible refine Ext.setRow ?_ (by first | exact LeS.le | exact LeS.add _ | (simp; done) | (simp; omega)) _) | (with_reducible refine Ext.setCell ?_ (by first | exact LeS.le | exact LeS.add _ | (simp; done) | (simp; omega)) _))))⟩
  rw [hd] at hF
  rcases b1 with _ | _
  · obtain rfl : b = false := hF.out
    clear hF kw
    go_enter Try.func156, Try.ntmps156
    go_wp2_with fail
    refine (kr _ (H0.out.up (by repeat (first | (with_reducible exact Ext.refl _) | (with_reducible refine Ext.up ?_ _) | (with_reducible refine Ext.alloc ?_ _) | (with_reducible refine Ext.drew ?_) | (with_reducible refine Ext.setRow ?_ (by first | exact LeS.le | exact LeS.add _ | (simp; done) | (simp; omega)) _) | (with_reducible refine Ext.setCell ?_ (by first | exact LeS.le | exact LeS.add _ | (simp; done) | (simp; omega)) _)))) (K0.out.up (by repeat (first | (with_reducible exact Ext.refl _) | (with_reducible refine Ext.up ?_ _) | (with_reducible refine Ext.alloc ?_ _) | (with_reducible refine Ext.drew ?_) | (with_reducible refine Ext.setRow ?_ (by first | exact LeS.le | exact LeS.add _ | (simp; done) | (simp; omega)) _) | (with_reducible refine Ext.setCell ?_ (by first | exact LeS.le | exact LeS.add _ | (simp; done) | (simp; omega)) _))))).mono ?_; rintro e w' ⟨rfl, z1, rfl⟩
    go_wp2_with fail
    go_ret
    exact ⟨rfl, (.of (by repeat (first | (with_reducible exact Ext.refl _) | (with_reducible refine Ext.up ?_ _) | (with_reducible refine Ext.alloc ?_ _) | (with_reducible refine Ext.drew ?_) | (with_reducible refine Ext.setRow ?_ (by first | exact LeS.le | exact LeS.add _ | (simp; done) | (simp; omega)) _) | (with_reducible refine Ext.setCell ?_ (by first | exact LeS.le | exact LeS.add _ | (simp; done) | (simp; omega)) _))))⟩
  · obtain rfl : b = b2 := by have := hF.out; simpa using this
    clear hF
    go_enter Try.func156, Try.ntmps156
    go_wp2_with fail
    refine (kr _ (H0.out.up (by repeat (first | (with_reducible exact Ext.refl _) | (with_reducible refine Ext.up ?_ _) | (with_reducible refine Ext.alloc ?_ _) | (with_reducible refine Ext.drew ?_) | (with_reducible refine Ext.setRow ?_ (by first | exact LeS.le | exact LeS.add _ | (simp; done) | (simp; omega)) _) | (with_reducible refine Ext.setCell ?_ (by first | exact LeS.le | exact LeS.add _ | (simp; done) | (simp; omega)) _)))) (K0.out.up (by repeat (first | (with_reducible exact Ext.refl _) | (with_reducible refine Ext.up ?_ _) | (with_reducible refine Ext.alloc ?_ _) | (with_reducible refine Ext.drew ?_) | (with_reducible refine Ext.setRow ?_ (by first | exact LeS.le | exact LeS.add _ | (simp; done) | (simp; omega)) _) | (with_reducible refine Ext.setCell ?_ (by first | exact LeS.le | exact LeS.add _ | (simp; done) | (simp; omega)) _))))).mono ?_; rintro e w' ⟨rfl, z1, rfl⟩
    go_wp2_with fail
    refine (kw _ (H1.out.up (by repeat (first | (with_reducible exact Ext.refl _) | (with_reducible refine Ext.up ?_ _) | (with_reducible refine Ext.alloc ?_ _) | (with_reducible refine Ext.drew ?_) | (with_reducible refine Ext.setRow ?_ (by first | exact LeS.le | exact LeS.add _ | (simp; done) | (simp; omega)) _) | (with_reducible refine Ext.setCell ?_ (by first | exact LeS.le | exact LeS.add _ | (simp; done) | (simp; omega)) _)))) (K1.out.up (by repeat (first | (with_reducible exact Ext.refl _) | (with_reducible refine Ext.up ?_ _) | (with_reducible refine Ext.alloc ?_ _) | (with_reducible refine Ext.drew ?_) | (with_reducible refine Ext.setRow ?_ (by first | exact LeS.le | exact LeS.add _ | (simp; done) | (simp; omega)) _) | (with_reducible refine Ext.setCell ?_ (by first | exact LeS.le | exact LeS.add _ | (simp; done) | (simp; omega)) _))))).mono ?_; rintro e w' ⟨rfl, z2, rfl⟩
    go_wp2_with fail
    go_ret
    exact ⟨rfl, (.of (by repeat (first | (with_reducible exact Ext.refl _) | (with_reducible refine Ext.up ?_ _) | (with_reducible refine Ext.alloc ?_ _) | (with_reducible refine Ext.drew ?_) | (with_reducible refine Ext.setRow ?_ (by first | exact LeS.le | exact LeS.add _ | (simp; done) | (simp; omega)) _) | (with_reducible refine Ext.setCell ?_ (by first | exact LeS.le | exact LeS.add _ | (simp; done) | (simp; omega)) _))))⟩
theorem nowL_snoc (s : List Ent) (V : List Ver) (n : Int) {rk : List Int} {k : Nat} {key : Int} (h : rk[k]? = some key) : nowL s V n (rk.take (k + 1)) = nowL s V n (rk.take k) ++ [⟨key, (readV (atK s key) V key n).1⟩] := by
  rw [List.take_add_one, h]; simp [nowL]
theorem nowF_snoc (s : List Ent) (V : List Ver) (n : Int) {rk : List Int} {k : Nat} {key : Int} (h : rk[k]? = some key) : nowF s V n (rk.take (k + 1)) = nowF s V n (rk.take k) ++ [(readV (atK s key) V key n).2] := by
  rw [List.take_add_one, h]; simp [nowF]
theorem vsets_append1 (v : List Int) (l : List Ent) (e : Ent) : vsets v (l ++ [e]) = vset (vsets v l) e := by simp [vsets]
set_option maxRecDepth 100000 in
set_option maxHeartbeats 4000000 in
theorem now_any (e : Eng) (v0 v1 v2 v3 : Value) (n : Nat) (x : Actn) (w : World) (h : SG w v0 v1 v2 v3 e) (hs : entsOk 1 e.base = true) (hx : e.acts[n]? = some x) (hxo : x.ok = true) :
    Calls Try.prog 157 #[.agg #[v0, v1, v2, v3], .int .i64 n] w fun ed w' => ∃ vf, ed = .returned (.tuple #[.agg (vA (vsets (valsOf e.base) (nowL e.base e.vers n x.rk))), vf]) ∧ Up w w' ∧ Own encI 3 1 w.heap.size w' vf (nowF e.base e.vers n x.rk) := by
  have HB := Lib.hid h.base; have HV := Lib.hid h.vers
  obtain ⟨p0, c0, rfl, _, _⟩ := h.base.openc
  obtain ⟨p1, c1, rfl, _, hca⟩ := h.acts.open
  obtain ⟨p2, c2, rfl, _, _⟩ := h.vers.openc
  obtain ⟨p3, c3, rfl, _, -⟩ := h.sl.open
  obtain ⟨b, off, rfl, hb, -⟩ := hca n x hx
  obtain ⟨a0, a1, a2, a3⟩ := acell hca rfl hx
  have hn0 : (0 : Int) ≤ (n : Int) := by omega
  have hn1 : (n : Int) < e.acts.length := by have := (List.getElem?_eq_some_iff.1 hx).1; omega
  have Hs := Lib.hid hs
  have hrk := Lib.hid (Actn.rk_in hxo)
  have hrl := Actn.rk_le x
  have kre := fun w => reads_any x w
  obtain ⟨base, acts, vers, sl⟩ := e
  dsimp only at *
  clear h hca hx hxo hs
  go_enter Try.func157, Try.ntmps157
  have tok1 : True := trivial
  have tok2 : True := trivial
  go_wp2_with (first | (go_at_call 71; refine (valuesOf_any 1 base _ _ (HB.out.up (by repeat (first | (with_reducible exact Ext.refl _) | (with_reducible refine Ext.up ?_ _) | (with_reducible refine Ext.alloc ?_ _) | (with_reducible refine Ext.drew ?_) | (with_reducible refine Ext.setRow ?_ (by first | exact LeS.le | exact LeS.add _ | (simp; done) | (simp; omega)) _) | (with_reducible refine Ext.setCell ?_ (by first | exact LeS.le | exact LeS.add _ | (simp; done) | (simp; omega)) _)))) Hs.out).mono ?_; rintro e w' ⟨rfl, z3, rfl⟩) | (have _t := tok1; refine wpList_store_new rfl _ _ _ rfl rfl rfl rfl (by rw [valsOf_length]; exact Try.sVals) (by rw [valsOf_length]; rfl) ?_; intro z4 r4; clear _t tok1) | (have _t := tok2; refine wpList_store_new rfl _ _ _ rfl rfl rfl rfl (by rw [valsOf_length]; exact Try.sVals) (by rw [valsOf_length]; rfl) ?_; intro z5 r5; clear _t tok2) | (refine wpList_load_row rfl _ _ rfl _ rfl _ _ _ _ r4.eq Try.underlying99 rfl (by rw [vA_size, valsOf_length]; exact Try.sVals) ?_) | ((go_at_call 130; refine (kre _).mono ?_; rintro e w' ⟨vk, rfl, ⟨z6, rfl⟩, ok⟩); obtain ⟨pk, ck, rfl, _, _⟩ := (ok.sl encI_length).openc))
  have r0 : Row 99 z3.val (w.heap.size + 1) zeros := (z3.ext.block (by simp)).trans (Row.of_eq (heap_alloc2_new _ _ _) vA_zeros.symm)
  have h3 := z3.ext.size
  have h4 := z4.ext.size
  have h5 := z5.ext.size
  have h6 := z6.ext.size
  simp at h3 h4 h5
  have Hne := Lib.hid (show z3.val.heap.size ≠ z4.val.heap.size by have := r4.lt; omega)
  have hG7 := r5.lt
  have R0 := Lib.hid (r0.up (z4.ext.trans (z5.ext.trans z6.ext)))
  have R4 := Lib.hid (r4.up (z5.ext.trans z6.ext))
  have R5 := Lib.hid (r5.up z6.ext)
  have hW1 : Ext (w.alloc (.cells #[.slice p0 base.length c0, .slice (some ⟨b, off, none⟩) acts.length c1, .slice p2 vers.length c2, .slice p3 sl.length c3] 81)) z6.val := (by repeat (first | (with_reducible exact Ext.refl _) | (with_reducible refine Ext.up ?_ _) | (with_reducible refine Ext.alloc ?_ _) | (with_reducible refine Ext.drew ?_) | (with_reducible refine Ext.setRow ?_ (by first | exact LeS.le | exact LeS.add _ | (simp; done) | (simp; omega)) _) | (with_reducible refine Ext.setCell ?_ (by first | exact LeS.le | exact LeS.add _ | (simp; done) | (simp; omega)) _)))
  have hle : (w.alloc (.cells #[.slice p0 base.length c0, .slice (some ⟨b, off, none⟩) acts.length c1, .slice p2 vers.length c2, .slice p3 sl.length c3] 81)).heap.size ≤ z4.val.heap.size := by simp; omega
  have hbox : LtS w.heap.size (w.alloc (.cells #[.slice p0 base.length c0, .slice (some ⟨b, off, none⟩) acts.length c1, .slice p2 vers.length c2, .slice p3 sl.length c3] 81)) := inferInstance
  have b2 : (w.alloc (.cells #[.slice p0 base.length c0, .slice (some ⟨b, off, none⟩) acts.length c1, .slice p2 vers.length c2, .slice p3 sl.length c3] 81)).cell? ⟨w.heap.size, 2, none⟩ = some (.slice p2 vers.length c2) := by go_simp
  have hE1 : Ext w (w.alloc (.cells #[.slice p0 base.length c0, .slice (some ⟨b, off, none⟩) acts.length c1, .slice p2 vers.length c2, .slice p3 sl.length c3] 81)) := (by repeat (first | (with_reducible exact Ext.refl _) | (with_reducible refine Ext.up ?_ _) | (with_reducible refine Ext.alloc ?_ _) | (with_reducible refine Ext.drew ?_) | (with_reducible refine Ext.setRow ?_ (by first | exact LeS.le | exact LeS.add _ | (simp; done) | (simp; omega)) _) | (with_reducible refine Ext.setCell ?_ (by first | exact LeS.le | exact LeS.add _ | (simp; done) | (simp; omega)) _)))
  have HV1 := Lib.hid (HV.out.up hE1)
  have hs1 : w.heap.size + 1 ≤ (w.alloc (.cells #[.slice p0 base.length c0, .slice (some ⟨b, off, none⟩) acts.length c1, .slice p2 vers.length c2, .slice p3 sl.length c3] 81)).heap.size := by simp
  generalize w.alloc (.cells #[.slice p0 base.length c0, .slice (some ⟨b, off, none⟩) acts.length c1, .slice p2 vers.length c2, .slice p3 sl.length c3] 81) = W1 at *
  have hu := Lib.hid ok.under
  have OK := Lib.hid ok; clear ok
  have hrkl := Lib.hid (show (nowF base vers n x.rk).length = x.rk.length by simp [nowF])
  clear r0 r4 r5
  go_loopw [8, 10, 11, 12, 24] (fun s8 _ _ _ s24 wr => ∃ (k : Nat), s24 = .int .i64 k ∧ k ≤ x.rk.length ∧ (Up W1 wr ∧ z6.val.heap.size ≤ wr.heap.size) ∧ Row 99 wr (w.heap.size + 1) zeros ∧ Row 99 wr z3.val.heap.size (valsOf base) ∧ Row 99 wr z4.val.heap.size (vsets (valsOf base) (nowL base vers n (x.rk.take k))) ∧ Own encI 3 1 z5.val.heap.size wr (.slice pk x.rk.length ck) x.rk ∧ Own encI 3 1 z6.val.heap.size wr s8 (nowF base vers n (x.rk.take k))) (fun _ _ _ _ s24 _ => x.rk.length - (intOf s24).toNat)
  case atStart => exact ⟨0, rfl, Nat.zero_le _, ⟨.of hW1, Nat.le_refl _⟩, R0.out, R4.out, R5.out, OK.out, Own.nil _ _ _ _ _⟩
  case round =>
    obtain ⟨k, rfl, hk, ⟨⟨z, rfl⟩, hz6⟩, r0, r6, r7, okk, of⟩ := hrel
    by_cases hlt : k < x.rk.length
    · obtain ⟨key, hkey⟩ := getElem?_some_of_lt hlt
      obtain ⟨kk0, kk1⟩ := hrk.out key (List.mem_of_getElem? hkey)
      obtain ⟨_, _, e9, _, hck⟩ := (okk.sl encI_length).open
      cases e9
      obtain ⟨gk, fk, rfl, hbk, hcc⟩ := hck k key hkey
      have ck0 : z.val.cell? ⟨gk, fk + k, none⟩ = some (.int .i64 key) := by have := hcc 0 _ rfl; simpa using this
      have hvk := valsOf_get Hs.out (n := key.toNat) (by omega)
      rw [show ((key.toNat : Nat) : Int) = key from by omega] at hvk
      obtain ⟨y, hy⟩ := getElem?_some_of_lt (l := vsets (valsOf base) (nowL base vers n (x.rk.take k))) (k := key.toNat) (by rw [vsets_length, valsOf_length]; omega)
      have d0 := r7.cell hy
      have f0 := r7.frozen key.toNat
      have hL7 := r7.lts
      have kread := fun w h => read_any (valsOf base) (atK base key) vers (.slice p2 vers.length c2) key (n : Int) w hvk kk0 kk1 h
      have Hn1 := Lib.hid (nowL_snoc base vers n hkey)
      have Hn2 := Lib.hid (nowF_snoc base vers n hkey)
      have hle2 : (nowF base vers n (x.rk.take k)).length ≤ 2 := by simp [nowF]; omega
      generalize readV (atK base key) vers key n = R at *
      obtain ⟨r1, r2⟩ := R
      dsimp only at *
      have hk2 : key < 32 := by omega
      have k0 : (0 : Int) ≤ (k : Int) := by omega
      have k1 : (k : Int) < x.rk.length := by omega
      have R0 := Lib.hid r0; have R6 := Lib.hid r6; have R7 := Lib.hid r7; have OKK := Lib.hid okk; have OF := Lib.hid of
      clear hck hcc hkey hvk hy r0 r6 r7 okk of
      go_wp2_with (first | (refine wpList_load_row rfl _ _ rfl _ rfl _ _ _ _ R6.out.eq Try.underlying99 rfl (by rw [vA_size, valsOf_length]; exact Try.sVals) ?_) | (go_at_call 92; refine (kread _ (HV1.out.up (by repeat (first | (with_reducible exact Ext.refl _) | (with_reducible refine Ext.up ?_ _) | (with_reducible refine Ext.alloc ?_ _) | (with_reducible refine Ext.drew ?_) | (with_reducible refine Ext.setRow ?_ (by first | exact LeS.le | exact LeS.add _ | (simp; done) | (simp; omega)) _) | (with_reducible refine Ext.setCell ?_ (by first | exact LeS.le | exact LeS.add _ | (simp; done) | (simp; omega)) _))))).mono ?_; rintro e w' ⟨rfl, z7, rfl⟩) | go_loud (at_builtin; refine wpList_pushG fI rfl (.tmp 40) (.tmp 42) rfl encI encI_length W1 (lo := z6.val.heap.size) [r2] (nowF base vers n (x.rk.take k)) rfl (Own.setLo (OF.out.up z7.ext) (by omega)) ((z.ext.trans z7.ext).setCell (by show _ ≤ z4.val.heap.size; omega) _) (by omega) (by rw [setCell_sz]; have := z7.ext.size; omega) rfl (by rfl) (by go_simp) rfl (oneIs _) (by simp; omega) (by simp; omega) ?_; intro v8 z8 o8 g8 b8))
      have hown := Own.setLo (i := key.toNat) (u := .int .i64 r1) (g := z4.val.heap.size) (OF.out.up z7.ext) (by omega)
      have S0 := Lib.hid (rowKept hown (by omega) (((R0.out.up z7.ext).other (p := ⟨z4.val.heap.size, key.toNat, none⟩) (.int .i64 r1) (by show _ ≠ z4.val.heap.size; omega)).eq) g8)
      have S6 := Lib.hid (rowKept hown (by omega) (((R6.out.up z7.ext).other (p := ⟨z4.val.heap.size, key.toNat, none⟩) (.int .i64 r1) Hne.out).eq) g8)
      have S7 := Lib.hid (rowKept hown (by omega) (((R7.out.up z7.ext).set key.toNat r1).eq) g8)
      have SK := Lib.hid (Own.keep (Own.alloc (Own.setLo (i := key.toNat) (u := .int .i64 r1) (g := z4.val.heap.size) (OKK.out.up z7.ext) (by omega))) g8 (Own.apartU OF.out hu.out (Nat.le_refl _)).symm)
      have O8 := Lib.hid o8
      have hs8 := g8.size
      have hs7 := z7.ext.size
      rw [World.size_alloc, setCell_sz] at hs8
      clear o8 g8 b8 hown
      go_wp2_with fail
      go_roundw
      case rel =>
        refine ⟨k + 1, by go_num, by omega, ⟨⟨z8, rfl⟩, by omega⟩, S0.out, S6.out, ?_, SK.out, by rw [Hn2.out]; exact O8.out⟩
        rw [Hn1.out, vsets_append1]
        exact S7.out
      case measure => simp [intOf] <;> omega
    · obtain rfl : k = x.rk.length := by omega
      rw [List.take_length] at r7 of
      have hVl := Lib.hid (show (vsets (valsOf base) (nowL base vers n x.rk)).length = 32 by rw [vsets_length, valsOf_length])
      have R0 := Lib.hid r0; have R7 := Lib.hid r7; have OF := Lib.hid of
      clear r0 r6 r7 okk of
      go_wp2_with (first | (refine wpList_load_row rfl _ _ rfl _ rfl _ _ _ _ R7.out.eq Try.underlying99 rfl (by rw [vA_size, hVl.out]; exact Try.sVals) ?_) | (refine wpList_store_row rfl _ _ _ rfl _ _ rfl rfl _ _ R0.out.eq (by rw [vA_size, hVl.out]; exact Try.sVals) (by rw [vA_size, vA_size, hVl.out, zeros_length]) (vA_one _) ?_))
      refine bodyPost_ret (results_cell_row2 (p := 4) (q := 5) (by kernel_rfl) _ _ (w.heap.size + 1) _ (vA (vsets (valsOf base) (nowL base vers n x.rk))) (0, 0) _ rfl rfl (R0.out.setRow _).eq Try.underlying99 rfl (by rw [vA_size, hVl.out]; exact Try.sVals)) rfl ⟨_, rfl, .of ((hE1.trans z.ext).setRow (by omega) _), ?_⟩
      exact (Own.kept OF.out (grownBy_setRow _ _ _) (OF.out.ne_rb (by omega))).lo (by omega)
end Go.Proofs.Ytkboefmkfpnpjaa
